/- state.above, and State.Apply for a life and a ceiling. DERIVED: THE SHELF's CONTRACTS AT THIS DUMP, IN PLAIN WORDS (tools/lay-plain.mjs out of 'YtcmjgghkmdbphaaGreatDoorSgRaw.lean', which tools/lay-shelf.mjs wrote): THE SAME DECLARATIONS UNDER THE SAME NAMES: 'import', 'namespace', 'open', 'def', 'theorem' AND NOTHING ELSE: no command of the shelf's: FOR A HAND-IN. Each laying: the table of numbers ('.._ren') and one theorem, a field a fact of the dump's own or the kernel's comparison; each contract: ONE APPLICATION. ring: slices.Concat at ranges; Split. ring.Split. The library's search in records. state: iced, split. -/
import Derived.Test.YtcmjgghkmdbphaaGreatDoorS20
import Derived.Shelf.Spec.SlicesGrow
import Derived.Ground.Names8Prog
import Derived.Test.YtcmjgghkmdbphaaGreatDoorProg
import Derived.Test.YtcmjgghkmdbphaaGreatDoorS10
import Derived.Test.YtcmjgghkmdbphaaGreatDoorS02
import Derived.Test.YtcmjgghkmdbphaaGreatDoorS01
import Derived.Test.YtcmjgghkmdbphaaGreatDoorS09
import Derived.Test.YtcmjgghkmdbphaaGreatDoorS08
import Derived.Laws.AppendOwn
import Derived.Test.YtcmjgghkmdbphaaGreatDoorS13
import Derived.Test.YtcmjgghkmdbphaaGreatDoorS03
set_option maxRecDepth 20000
set_option maxHeartbeats 25600000
namespace Go.Proofs.YtcmjgghkmdbphaaGreatDoor
open Go.RowKit
def AboveOut (n v : Int) (g i : Nat) (t : TypeId) (cs : List Value) (w : World) (e : Ending) (w' : World) : Prop :=
 e = .returned (.int .i64 (if n ≤ v then 1 else 0)) ∧ Blk w' g t (if n ≤ v then cs else cs.set i (.int .i64 n)) ∧ Only (fun k => k = g) w w'
theorem above_any (n v : Int) (g i : Nat) (t : TypeId) (cs : List Value) (w : World) (hB : Blk w g t cs) (hi : cs[i]? = some (.int .i64 v)) :
 Calls Tryz.prog 88 #[.int .i64 n, .pointer (some ⟨g, i, none⟩)] w (AboveOut n v g i t cs w) := by
 have y0 := hB.cell i
 rw [hi] at y0
 have y1 := hB.frozen i
 have HH := jh hB
 clear hB hi
 go_enter Tryz.func88, Tryz.ntmps88
 by_cases hc : n ≤ v
 ·have HC := jh hc
  go_wp2_with fail
  go_ret
  refine ⟨?_, ?_, Only.refl _ _⟩
  ·rw [if_pos HC.out]; rfl
  ·rw [if_pos HC.out]; exact HH.out
 ·have HC := jh hc
  go_wp2_with fail
  go_ret
  refine ⟨?_, ?_, Only.set_ (F := fun k => k = g) rfl _⟩
  ·rw [if_neg (Int.not_le.2 HC.out)]; rfl
  ·rw [if_neg (Int.not_le.2 HC.out)]; exact HH.out.set_ i _
def ReB (nb : Nat) (r : Rec) (nA : Option Addr) (nc : Nat) (pA : Option Addr) (pc : Nat) (sA : Option Addr) (sc : Nat) (W : World) : Prop := Blk W nb 46 (r.cells nA nc pA pc sA sc)
theorem ReB.c1 {nb : Nat} {r : Rec} {nA pA sA : Option Addr} {nc pc sc : Nat} (d : Wd (ReB nb r nA nc pA pc sA sc)) : d.w.cell? ⟨nb, 1, none⟩ = some (.int .i64 r.n) := Blk.cell d.ok 1
theorem doS_1 {s : St} {r : Rec} (h : r.kind = 1) : doS s r = lifeS s r := by unfold doS; rw [h]; rfl
theorem doS_2 {s : St} {r : Rec} (h : r.kind = 2) : doS s r = ceilS s r := by unfold doS; rw [h]; rfl
theorem lifeS_out {g : Nat} {s : St} {r : Rec} {v : SV} {w w' : World} {P : Nat → Prop} {e : Ending} (hn : i64 r.n) (hI : StIn w P s v) (hg : ¬ P g)
 (h : AboveOut r.n s.life g 2 176 (s.cells v) w e w') : StOut w P g (lifeS s r) e w' := by
 obtain ⟨rfl, hB, hO⟩ := h
 unfold StOut lifeS
 by_cases hc : r.n ≤ s.life
 ·rw [if_pos hc] at hB ⊢
  rw [if_pos hc]
  exact ⟨rfl, ⟨v, hB, (hI.same (Same.of_only hO fun k hk e => hg (e ▸ hk))).mono fun k hk => .inl hk⟩, hO⟩
 ·rw [if_neg hc] at hB ⊢
  rw [if_neg hc]
  have hI' := hI.same (Same.of_only hO fun k hk e => hg (e ▸ hk))
  exact ⟨rfl, ⟨v, hB, ({ hI' with fit := ja hI.fit.1 (ja hI.fit.2.1 (ja hn hI.fit.2.2.2)) } : StIn w' P { s with life := r.n } v).mono fun k hk => .inl hk⟩, hO⟩
theorem ceilS_out {g : Nat} {s : St} {r : Rec} {v : SV} {w w' : World} {P : Nat → Prop} {e : Ending} (hn : i64 r.n) (hI : StIn w P s v) (hg : ¬ P g)
 (h : AboveOut r.n s.ceiling g 3 176 (s.cells v) w e w') : StOut w P g (ceilS s r) e w' := by
 obtain ⟨rfl, hB, hO⟩ := h
 unfold StOut ceilS
 by_cases hc : r.n ≤ s.ceiling
 ·rw [if_pos hc] at hB ⊢
  rw [if_pos hc]
  exact ⟨rfl, ⟨v, hB, (hI.same (Same.of_only hO fun k hk e => hg (e ▸ hk))).mono fun k hk => .inl hk⟩, hO⟩
 ·rw [if_neg hc] at hB ⊢
  rw [if_neg hc]
  have hI' := hI.same (Same.of_only hO fun k hk e => hg (e ▸ hk))
  exact ⟨rfl, ⟨v, hB, ({ hI' with fit := ja hI.fit.1 (ja hI.fit.2.1 (ja hI.fit.2.2.1 hn)) } : StIn w' P { s with ceiling := r.n } v).mono fun k hk => .inl hk⟩, hO⟩
theorem applyK_1 (g : Nat) (s : St) (r : Rec) (nA pA sA : Option Addr) (nc pc sc : Nat) (P Q : Nat → Prop) (w : World) (h : StAt w P g s) (hg : ¬ P g) (hS : Fit s)
 (hr : RecAt w Q r nA nc pA pc sA sc) (hQ : ¬ Q g) (hF : r.Fair) (hT : Tabs w) (h2 : 2 ≤ g) (h3 : r.kind = 1) :
 Calls Tryz.prog 19 #[ptrV g, .agg (r.cells nA nc pA pc sA sc).toArray] w (StOut w P g (applyS s r)) := by
 have hgl := h.lt
 have HH := jh (ja h (ja hg (ja hS (ja hr (ja hQ (ja hF hT))))))
 clear h hg hS hr hQ hF hT
 have hb1 := (jb w.heap.size w).al (.cells (r.cells nA nc pA pc sA sc).toArray 46)
 have B0 := Blk.new w 46 (r.cells nA nc pA pc sA sc)
 have hs1 : (w.alloc (.cells (r.cells nA nc pA pc sA sc).toArray 46)).heap.size = w.heap.size + 1 := by simp
 unfold ptrV
 go_enter Tryz.func19, Tryz.ntmps19
 go_upto_region 1 with fail
 refine forget (M := fun W => Code.wp _ _ _ _ W) (fun W => Below w.heap.size w W ∧ Blk W w.heap.size 46 (r.cells nA nc pA pc sA sc) ∧ W.heap.size = w.heap.size + 1) ⟨hb1, B0, hs1⟩ ?_
 clear B0 hb1 hs1
 rintro w1 ⟨hb1, B0, hs1⟩
 obtain ⟨v, hB, hI⟩ := HH.out.1
 have C1 := gone_any g s.self w1 ((hB.ext hb1).cell 0) HH.out.2.2.1.self
 have C2 := recCheck_any r nA pA sA nc pc sc Q w1 (HH.out.2.2.2.1.ext (js hb1) hb1.size) HH.out.2.2.2.2.2.1 (HH.out.2.2.2.2.2.2.below hb1) (by omega)
 unfold ptrV at C1
 have H1 := jh (ja hb1 hs1)
 clear hB hI hb1
 go_wp2_with fail
 refine C1.mono ?_
 clear C1
 rintro e w' ⟨rfl, rfl⟩
 go_wp2_with (first
  | ((with_reducible refine wpList_load_blk rfl rfl ?_ B0 Tryz.underlying46 rfl (by kernel_rfl) ?_); · rfl)
  | fail)
 refine C2.mono ?_
 clear C2
 rintro e w2 ⟨rfl, hb2⟩
 have B2 := B0.ext hb2
 have hw2 := H1.out.1.tr hb2
 by_cases hc : checkR r = 0
 ·have HC := jh (show applyS s r = lifeS s r from by unfold applyS; rw [if_neg (by rw [hc]; simp)]; exact doS_1 h3)
  rw [hc]
  have x0 : w2.cell? ⟨w.heap.size, 0, none⟩ = some (.int .i64 r.kind) := B2.cell 0
  rw [h3] at x0
  obtain ⟨v, hB, hI⟩ := HH.out.1
  have hB2 := hB.ext hw2
  have H2 := jh (ja hw2 (ja hB2 (hI.same (js hw2))))
  have hD2 : ReB w.heap.size r nA nc pA pc sA sc w2 := B2
  haveI : Nonempty (Wd (ReB w.heap.size r nA nc pA pc sA sc)) := ⟨⟨_, hD2⟩⟩
  have y1 := ReB.c1 (nb := w.heap.size) (r := r) (nA := nA) (nc := nc) (pA := pA) (pc := pc) (sA := sA) (sc := sc)
  clear hc hB hI hb2 hw2 B0
  go_upto_region 8 with fail
  refine wp_region_mix (.seg [0, 1, 2, 3, 4] 5 (.leaf [6])) (fun w' => ∃ d : Wd (ReB w.heap.size r nA nc pA pc sA sc), w' = d.w) (by kernel_rfl) (by kernel_rfl) (fun _ _ d _ _ h => by cases d <;> exact h) (ClsW.mk (D := ReB w.heap.size r nA nc pA pc sA sc) (Blk.drew hD2)) ?_
  unfold wpMix; simp only [pick, j1, j2, j3, j4]
  (repeat (show wpQuiet _ _ _ _ (_ :: _) _; go_big_quiet_step (fail))); refine qn ?_
  have C3 := above_any r.n s.life g 2 176 (s.cells v) w2.drew hB2.drew rfl
  clear hB2 B2
  go_wp2_with fail
  refine C3.mono ?_
  clear C3
  intro e w3 h3'
  have hD3 : ReB w.heap.size r nA nc pA pc sA sc w3 := (Blk.drew hD2).only h3'.2.2 (fun h => by omega)
  have h3 := lifeS_out HH.out.2.2.2.1.n (H2.out.2.2.same (js (jb _ w2).drew)) HH.out.2.1 h3'
  have he := h3.1
  have H3 := jh h3.2
  clear h3 h3'
  subst he
  go_wp2_with fail
  dsimp only [wpList, SegQ]
  refine ⟨fun w' => ∃ d : Wd (ReB w.heap.size r nA nc pA pc sA sc), w' = d.w, ClsW.mk (D := ReB w.heap.size r nA nc pA pc sA sc) hD3, fun _ h => h, ?_⟩
  unfold wpMix; simp only [pick, j1, j2, j3, j4]
  (repeat (show wpQuiet _ _ _ _ (_ :: _) _; go_big_quiet_step (fail))); refine qn ?_
  clear y1
  go_wp2_with fail
  go_ret
  unfold StOut
  rw [HC.out]
  obtain ⟨⟨v', a1, a2⟩, a3⟩ := H3.out
  exact ⟨rfl, ⟨v', a1, a2.mono fun k hk => by
   rcases hk with h | h
   ·exact .inl h
   ·exact .inr (by have := H2.out.1.size; have hz : w2.drew.heap.size = w2.heap.size := rfl; omega)⟩, (jo (H2.out.1.tr (jb _ w2).drew)).tr a3⟩
 ·have HC := jh (show applyS s r = (s, checkR r) from by unfold applyS; rw [if_pos hc])
  have hc' : (checkR r != 0) = true := bne_iff_ne.2 hc
  obtain ⟨v, hB, hI⟩ := HH.out.1
  have H3 := jh (ja (⟨v, hB.ext hw2, hI.same (js hw2)⟩ : StAt w2 P g s) hw2)
  clear hc hB hI hb2 hw2 B0 B2
  go_wp2_with fail
  go_ret
  unfold StOut
  rw [HC.out]
  obtain ⟨v', a1, a2⟩ := H3.out.1
  exact ⟨rfl, ⟨v', a1, a2.mono fun k hk => .inl hk⟩, jo H3.out.2⟩
theorem applyK_2 (g : Nat) (s : St) (r : Rec) (nA pA sA : Option Addr) (nc pc sc : Nat) (P Q : Nat → Prop) (w : World) (h : StAt w P g s) (hg : ¬ P g) (hS : Fit s)
 (hr : RecAt w Q r nA nc pA pc sA sc) (hQ : ¬ Q g) (hF : r.Fair) (hT : Tabs w) (h2 : 2 ≤ g) (h3 : r.kind = 2) :
 Calls Tryz.prog 19 #[ptrV g, .agg (r.cells nA nc pA pc sA sc).toArray] w (StOut w P g (applyS s r)) := by
 have hgl := h.lt
 have HH := jh (ja h (ja hg (ja hS (ja hr (ja hQ (ja hF hT))))))
 clear h hg hS hr hQ hF hT
 have hb1 := (jb w.heap.size w).al (.cells (r.cells nA nc pA pc sA sc).toArray 46)
 have B0 := Blk.new w 46 (r.cells nA nc pA pc sA sc)
 have hs1 : (w.alloc (.cells (r.cells nA nc pA pc sA sc).toArray 46)).heap.size = w.heap.size + 1 := by simp
 unfold ptrV
 go_enter Tryz.func19, Tryz.ntmps19
 go_upto_region 1 with fail
 refine forget (M := fun W => Code.wp _ _ _ _ W) (fun W => Below w.heap.size w W ∧ Blk W w.heap.size 46 (r.cells nA nc pA pc sA sc) ∧ W.heap.size = w.heap.size + 1) ⟨hb1, B0, hs1⟩ ?_
 clear B0 hb1 hs1
 rintro w1 ⟨hb1, B0, hs1⟩
 obtain ⟨v, hB, hI⟩ := HH.out.1
 have C1 := gone_any g s.self w1 ((hB.ext hb1).cell 0) HH.out.2.2.1.self
 have C2 := recCheck_any r nA pA sA nc pc sc Q w1 (HH.out.2.2.2.1.ext (js hb1) hb1.size) HH.out.2.2.2.2.2.1 (HH.out.2.2.2.2.2.2.below hb1) (by omega)
 unfold ptrV at C1
 have H1 := jh (ja hb1 hs1)
 clear hB hI hb1
 go_wp2_with fail
 refine C1.mono ?_
 clear C1
 rintro e w' ⟨rfl, rfl⟩
 go_wp2_with (first
  | ((with_reducible refine wpList_load_blk rfl rfl ?_ B0 Tryz.underlying46 rfl (by kernel_rfl) ?_); · rfl)
  | fail)
 refine C2.mono ?_
 clear C2
 rintro e w2 ⟨rfl, hb2⟩
 have B2 := B0.ext hb2
 have hw2 := H1.out.1.tr hb2
 by_cases hc : checkR r = 0
 ·have HC := jh (show applyS s r = ceilS s r from by unfold applyS; rw [if_neg (by rw [hc]; simp)]; exact doS_2 h3)
  rw [hc]
  have x0 : w2.cell? ⟨w.heap.size, 0, none⟩ = some (.int .i64 r.kind) := B2.cell 0
  rw [h3] at x0
  obtain ⟨v, hB, hI⟩ := HH.out.1
  have hB2 := hB.ext hw2
  have H2 := jh (ja hw2 (ja hB2 (hI.same (js hw2))))
  have hD2 : ReB w.heap.size r nA nc pA pc sA sc w2 := B2
  haveI : Nonempty (Wd (ReB w.heap.size r nA nc pA pc sA sc)) := ⟨⟨_, hD2⟩⟩
  have y1 := ReB.c1 (nb := w.heap.size) (r := r) (nA := nA) (nc := nc) (pA := pA) (pc := pc) (sA := sA) (sc := sc)
  clear hc hB hI hb2 hw2 B0
  go_upto_region 10 with fail
  refine wp_region_mix (.seg [0, 1, 2, 3, 4] 5 (.leaf [6])) (fun w' => ∃ d : Wd (ReB w.heap.size r nA nc pA pc sA sc), w' = d.w) (by kernel_rfl) (by kernel_rfl) (fun _ _ d _ _ h => by cases d <;> exact h) (ClsW.mk (D := ReB w.heap.size r nA nc pA pc sA sc) (Blk.drew hD2)) ?_
  unfold wpMix; simp only [pick, j1, j2, j3, j4]
  (repeat (show wpQuiet _ _ _ _ (_ :: _) _; go_big_quiet_step (fail))); refine qn ?_
  have C3 := above_any r.n s.ceiling g 3 176 (s.cells v) w2.drew hB2.drew rfl
  clear hB2 B2
  go_wp2_with fail
  refine C3.mono ?_
  clear C3
  intro e w3 h3'
  have hD3 : ReB w.heap.size r nA nc pA pc sA sc w3 := (Blk.drew hD2).only h3'.2.2 (fun h => by omega)
  have h3 := ceilS_out HH.out.2.2.2.1.n (H2.out.2.2.same (js (jb _ w2).drew)) HH.out.2.1 h3'
  have he := h3.1
  have H3 := jh h3.2
  clear h3 h3'
  subst he
  go_wp2_with fail
  dsimp only [wpList, SegQ]
  refine ⟨fun w' => ∃ d : Wd (ReB w.heap.size r nA nc pA pc sA sc), w' = d.w, ClsW.mk (D := ReB w.heap.size r nA nc pA pc sA sc) hD3, fun _ h => h, ?_⟩
  unfold wpMix; simp only [pick, j1, j2, j3, j4]
  (repeat (show wpQuiet _ _ _ _ (_ :: _) _; go_big_quiet_step (fail))); refine qn ?_
  clear y1
  go_wp2_with fail
  go_ret
  unfold StOut
  rw [HC.out]
  obtain ⟨⟨v', a1, a2⟩, a3⟩ := H3.out
  exact ⟨rfl, ⟨v', a1, a2.mono fun k hk => by
   rcases hk with h | h
   ·exact .inl h
   ·exact .inr (by have := H2.out.1.size; have hz : w2.drew.heap.size = w2.heap.size := rfl; omega)⟩, (jo (H2.out.1.tr (jb _ w2).drew)).tr a3⟩
 ·have HC := jh (show applyS s r = (s, checkR r) from by unfold applyS; rw [if_pos hc])
  have hc' : (checkR r != 0) = true := bne_iff_ne.2 hc
  obtain ⟨v, hB, hI⟩ := HH.out.1
  have H3 := jh (ja (⟨v, hB.ext hw2, hI.same (js hw2)⟩ : StAt w2 P g s) hw2)
  clear hc hB hI hb2 hw2 B0 B2
  go_wp2_with fail
  go_ret
  unfold StOut
  rw [HC.out]
  obtain ⟨v', a1, a2⟩ := H3.out.1
  exact ⟨rfl, ⟨v', a1, a2.mono fun k hk => .inl hk⟩, jo H3.out.2⟩
end Go.Proofs.YtcmjgghkmdbphaaGreatDoor
namespace Go.Proofs
open Go.Shelf
def Tryz.growR_ren : Go.Shelf.Ren := ⟨fun | 4 => 303 | n => n, fun | 22 => 58 | 25 => 27 | 3 => 3 | 4 => 4 | 9 => 9 | 20 => 20 | 0 => 0 | n => n, fun | n => n⟩
theorem Tryz.growR : Go.Proofs.Lays8.n4 Tryz.prog Tryz.growR_ren := {
 mixed := by kernel_rfl
 f4 := ⟨Tryz.f303.name, by decide, Tryz.func303.trans (congrArg some (by kernel_rfl))⟩
 t0 := Tryz.underlying0
 a0 := Tryz.isAgg0
 z0 := Tryz.sizeOf0
 v0 := Tryz.zeroValue0
 t3 := Tryz.underlying3
 a3 := Tryz.isAgg3
 z3 := Tryz.sizeOf3
 v3 := Tryz.zeroValue3
 t4 := Tryz.underlying4
 a4 := Tryz.isAgg4
 z4 := Tryz.sizeOf4
 v4 := Tryz.zeroValue4
 t9 := Tryz.underlying9
 a9 := Tryz.isAgg9
 z9 := Tryz.sizeOf9
 v9 := Tryz.zeroValue9
 t20 := Tryz.underlying20
 a20 := Tryz.isAgg20
 z20 := Tryz.sizeOf20
 v20 := Tryz.zeroValue20
 t22 := Tryz.underlying58
 a22 := Tryz.isAgg58
 z22 := Tryz.sizeOf58
 v22 := Tryz.zeroValue58 }
end Go.Proofs
namespace Go.Proofs.YtcmjgghkmdbphaaGreatDoor
open Go.RowKit Go.Shelf
set_option maxRecDepth 100000 in
theorem grow_any (n : Nat) (w : World) (h0 : 0 < n) (h1 : n ≤ 1000000) : Calls Tryz.prog 303 #[.slice none 0 0, .int .i64 n] w fun e w' => GotOwn RangeR w.heap.size 27 (fun _ => False) [] e w' ∧ Below w.heap.size w w' := by
 obtain ⟨i0, e1, e2, e3, e4⟩ := info_parts range_info
 have hz : (Value.agg #[.int .i64 0, .int .i64 0, .int .i64 0, .int .i64 0] : Value).cells.size = 4 := rfl
 refine (Any8.slices_Grow_grow Tryz.growR i0 _ e1 e2 (by rw [e3]; decide) none 0 0 n [] w (Nat.le_refl _) (by omega) (by rw [e4]; omega) (by omega) (by simp) (fun _ => rfl) (fun _ h => by cases h)).mono ?_
 rintro e w' ⟨rfl, rfl⟩
 have hge := grownCap_ge w (0 + n) 0 (Tryz.growR_ren.t 25)
 have hle := grownCap_le_maxLen w (0 + n) 0 (Tryz.growR_ren.t 25) (by unfold maxLen; omega)
 generalize grownCap w (0 + n) 0 (Tryz.growR_ren.t 25) = cap at *
 have hbl : Below w.heap.size w (w.drew.alloc (.cells (([] : List Value).toArray ++ Builtin.zeroCells (Value.agg #[.int .i64 0, .int .i64 0, .int .i64 0, .int .i64 0] : Value).cells (0 + n - 0) ++ Builtin.zeroCells (Value.agg #[.int .i64 0, .int .i64 0, .int .i64 0, .int .i64 0] : Value).cells (cap - (0 + n))) (Tryz.growR_ren.t 25))) := (jb _ w).drew.al _
 refine ⟨⟨_, rfl, [], ⟨rfl, .inr ⟨w.heap.size, cap, _, rfl, Nat.le_refl _, heap_alloc_new w.drew _, Nat.zero_le _, hle, ?_, rfl⟩⟩, Rep.flat.nil_⟩, hbl⟩
 simp only [Array.size_append, List.size_toArray, List.length_nil, size_zeroCells, hz]
 rw [Nat.zero_add, ← Nat.add_mul]
 show _ = cap * 4
 congr 1
 omega
structure RowsAt (w : World) (B : Nat) (b : Nat) (xss : List (Option Addr × Nat × List Range)) : Prop where
 blk : Blk w b 58 (xss.map fun x => .slice x.1 x.2.2.length x.2.1)
 rows : ∀ x ∈ xss, RangeR.Row w (fun k => k < B) x.1 x.2.2
def catL (xss : List (Option Addr × Nat × List Range)) : List Range := (xss.map fun x => x.2.2).flatten
theorem catL_snoc (l : List (Option Addr × Nat × List Range)) (x : Option Addr × Nat × List Range) : catL (l ++ [x]) = catL l ++ x.2.2 := by simp [catL]
theorem catL_le (l : List (Option Addr × Nat × List Range)) (k : Nat) : (catL (l.take k)).length ≤ (catL l).length := by
 have h : catL l = catL (l.take k) ++ catL (l.drop k) := by
  conv => lhs; rw [← List.take_append_drop k l]
  unfold catL
  rw [List.map_append, List.flatten_append]
 rw [h, List.length_append]
 omega
theorem concat_any (xss : List (Option Addr × Nat × List Range)) (b : Nat) (w : World) (h : RowsAt w w.heap.size b xss) (h0 : 0 < (catL xss).length) (h1 : (catL xss).length ≤ 1000) (h2 : xss.length ≤ 1000) :
 Calls Tryz.prog 264 #[.slice (some ⟨b, 0, none⟩) xss.length xss.length] w fun e w' => GotOwn RangeR w.heap.size 27 (fun _ => False) (catL xss) e w' ∧ Below w.heap.size w w' := by
 have HX := jh h
 clear h
 go_enter Tryz.func264, Tryz.ntmps264
 go_wp2_with fail
 go_loopw [3, 11] (fun x i wr => ∃ (k : Nat), k ≤ xss.length ∧ i = .int .i64 k ∧ x = .int .i64 ((catL (xss.take k)).length : Nat) ∧ wr = w) (fun _ i _ => xss.length - (intOf i).toNat)
 case atStart => exact ⟨0, Nat.zero_le _, rfl, by simp [catL], rfl⟩
 case round =>
  obtain ⟨k, hkl, rfl, rfl, hwr⟩ := hrel
  subst hwr
  by_cases hlt : k < xss.length
  ·have hlt' : (k : Int) < xss.length := by omega
   have hlk := jg hlt
   have hts := take_snoc xss k hlt
   have hle1 := catL_le xss (k + 1)
   have y0 : wr.cell? ⟨b, k, none⟩ = some (.slice xss[k].1 xss[k].2.2.length xss[k].2.1) := by rw [HX.out.blk.cell, List.getElem?_map, hlk]; rfl
   rw [hts, catL_snoc, List.length_append] at hle1
   have hn0 : 0 ≤ (((catL (xss.take k)).length : Nat) : Int) := Int.natCast_nonneg _
   have hn1 : (((catL (xss.take k)).length : Nat) : Int) ≤ 1000 := by omega
   have hm1 : ((xss[k].2.2.length : Nat) : Int) ≤ 1000 := by omega
   have hm0 : 0 ≤ ((xss[k].2.2.length : Nat) : Int) := Int.natCast_nonneg _
   have HTS := jh (show (catL (xss.take (k + 1))).length = (catL (xss.take k)).length + xss[k].2.2.length from by rw [hts, catL_snoc, List.length_append])
   generalize (catL (xss.take k)).length = n at *
   generalize xss[k] = x at *
   clear hlk hts hle1
   go_wp2_with fail
   go_round
   case rel => exact ⟨k + 1, by omega, by go_num, by rw [HTS.out]; go_num, trivial⟩
   case measure => (simp [intOf]; omega)
  ·have hkn : k = xss.length := by omega
   subst hkn
   rw [List.take_length]
   have C1 := grow_any (catL xss).length wr h0 (by omega)
   unfold GotOwn at C1
   go_wp2_with fail
   refine C1.mono ?_
   clear C1
   rintro e w1 ⟨⟨v1, rfl, ho1⟩, hb1⟩
   have H1 := jh (ja ho1 hb1)
   obtain ⟨A1, c1, rfl, _⟩ := ho1.form
   clear ho1 hb1
   go_wp2_with fail
   go_loopw [6, 27] (fun x i w' => ∃ (k : Nat), k ≤ xss.length ∧ i = .int .i64 k ∧ RangeR.Own w' wr.heap.size 27 (fun _ => True) x (catL (xss.take k)) ∧ Below wr.heap.size wr w') (fun _ i _ => xss.length - (intOf i).toNat)
   case atStart => exact ⟨0, Nat.zero_le _, rfl, by rw [List.take_zero]; exact H1.out.1.plain range_plain, H1.out.2⟩
   case round =>
    obtain ⟨k, hkl2, rfl, hown, hbl⟩ := hrel
    have hbz := hbl.size
    by_cases hlt : k < xss.length
    ·have hlt' : (k : Int) < xss.length := by omega
     have hlk := jg hlt
     have hts := take_snoc xss k hlt
     have hle1 := catL_le xss (k + 1)
     have y0 := (HX.out.blk.ext hbl).cell k
     rw [List.getElem?_map, hlk] at y0
     have hrow := (HX.out.rows _ (List.getElem_mem hlt)).ext hbl
     rw [hts, catL_snoc, List.length_append] at hle1
     have HTS := jh (show catL (xss.take (k + 1)) = catL (xss.take k) ++ xss[k].2.2 from by rw [hts, catL_snoc])
     generalize xss[k] = x at *
     generalize catL (xss.take k) = l0 at *
     obtain ⟨Ao, co, rfl, _⟩ := hown.form
     obtain ⟨Ax, cx, lx⟩ := x
     dsimp only [Option.map_some] at y0 hrow hle1 HTS
     obtain ⟨i0, e1, e2, e3, e4⟩ := info_parts range_info
     clear hlk hts H1
     go_wp2_with (first
      | (at_builtin; refine wpList_append_rep (R := RangeR) _ rfl _ _ _ rfl _ 27 i0 _ 32 Tryz.underlying58 e1 e2 e3 e4 rfl _ l0 (fun _ => True) rfl hown _ _ _ lx rfl hrow (fun q hq hq' => ⟨trivial, fun e => by have := (hown.lt q e.symm).1; omega⟩) (by unfold maxLen; omega) (by omega) hbz ?_; intro v' w2 ho2 hg2 hat2 hn2 hb2)
      | fail)
     go_round
     case rel => exact ⟨k + 1, by omega, by go_num, by rw [HTS.out]; exact ho2, hbl.trans hb2⟩
     case measure => (simp [intOf]; omega)
    ·have hkn : k = xss.length := by omega
     subst hkn
     rw [List.take_length] at hown
     have HO := jh (ja hown hbl)
     obtain ⟨Ao, co, rfl, _⟩ := hown.form
     clear hown hbl
     go_wp2_with fail
     go_ret
     exact ⟨⟨_, rfl, HO.out.1.plain range_plain⟩, HO.out.2⟩
end Go.Proofs.YtcmjgghkmdbphaaGreatDoor
namespace Go.Proofs.YtcmjgghkmdbphaaGreatDoor
open Go.RowKit Go.Shelf
theorem range_row2 {W : World} {P : Nat → Prop} {b : Nat} {t : TypeId} {x y : Range} (hx : x.fit) (hy : y.fit) (hB : Blk W b t (x.cells ++ y.cells)) (hP : P b) : RangeR.Row W P (some ⟨b, 0, none⟩) [x, y] := fun _ => by
 refine ⟨b, 0, rfl, hP, hB.lt, fun i a hi => ?_⟩
 match i, hi with
 | 0, hi =>
   simp at hi; subst hi
   refine ⟨x.cells, range_rep.2 ⟨rfl, hx⟩, fun j u hu => ?_⟩
   have hj : j < x.cells.length := (List.getElem?_eq_some_iff.1 hu).1
   rw [show 0 + 0 * RangeR.size + j = j from by simp, hB.cell, List.getElem?_append_left hj]; exact hu
 | 1, hi =>
   simp at hi; subst hi
   refine ⟨y.cells, range_rep.2 ⟨rfl, hy⟩, fun j u hu => ?_⟩
   rw [show 0 + 1 * RangeR.size + j = x.cells.length + j from by simp [RangeR_size, Range.cells], hB.cell, List.getElem?_append_right (by omega), Nat.add_sub_cancel_left]; exact hu
def GotSplit (B : Nat) (q : List Range × Int) (e : Ending) (w' : World) : Prop := ∃ v, e = .returned (.tuple #[v, .int .i64 q.2]) ∧ RangeR.Own w' B 27 (fun _ => False) v q.1
theorem split_any (A : Option Addr) (c : Nat) (l : List Range) (m0 : Int) (P : Nat → Prop) (w : World) (hr : RangeR.Row w P A l) (hc : l.length ≤ c ∧ c ≤ 9223372036854775807) (hl : l.length ≤ 1000000) :
 Calls Tryz.prog 182 #[.slice A l.length c, .int .i64 m0] w fun e w' => GotSplit w.heap.size (splitR l m0) e w' ∧ Below w.heap.size w w' := by
 have C1 := at_any A c l m0 P w hr hl
 have HR := jh (hr.mono (Q := fun g => g < w.heap.size) fun g _ m0 => m0); clear hr
 have HF := jh (show splitR l m0 = (if atR l m0 < 0 ∨ (l.getD (atR l m0).toNat zeroRange).first = m0 ∨ (l.getD (atR l m0).toNat zeroRange).epoch = 1099511627776 then ([], 1) else if 64 ≤ l.length then ([], 2) else (l.take (atR l m0).toNat ++ ([{ l.getD (atR l m0).toNat zeroRange with last := m0 - 1, epoch := (l.getD (atR l m0).toNat zeroRange).epoch + 1 }, { l.getD (atR l m0).toNat zeroRange with first := m0, epoch := (l.getD (atR l m0).toNat zeroRange).epoch + 1 }] ++ l.drop ((atR l m0).toNat + 1)), 0)) from rfl)
 have HN := jh (show (0 ≤ atR l m0 → ∃ a x b, l = a ++ x :: b ∧ x.has m0 = true ∧ atR l m0 = (a.length : Int) ∧ soundR l = true) from fun hn => at_nonneg (by omega))
 generalize atR l m0 = i at *
 go_enter Tryz.func182, Tryz.ntmps182
 go_wp2_with fail
 refine C1.mono ?_
 clear C1
 rintro e w1 ⟨rfl, hb1⟩
 by_cases hi : i < 0
 ·have HI := jh hi
  go_wp2_with fail
  go_ret2
  rw [HF.out, if_pos (.inl HI.out)]
  exact ⟨⟨_, rfl, Rep.Own.nil_⟩, hb1⟩
 have HI := jh hi
 have hi' : decide (i < 0) = false := jd hi
 obtain ⟨a, x, b, hlab, hx, hia, hs⟩ := HN.out (by omega)
 have hlk : l[a.length]? = some x := by rw [hlab]; simp
 have hbd := soundFrom_mem (sound_iff.1 hs).1 (show x ∈ l from List.mem_of_getElem? hlk)
 obtain ⟨hb0, hb2, hb3, hb4, hbo⟩ := hbd
 rw [ownedB_iff] at hbo
 rw [has_iff] at hx
 have hkl : a.length < l.length := (List.getElem?_eq_some_iff.1 hlk).1
 have HG := jh (show l.getD i.toNat zeroRange = x from by rw [hia]; simp [hlk])
 rw [HG.out] at HF
 have HT := jh (show i.toNat = a.length from by rw [hia]; simp)
 rw [HT.out] at HF
 obtain ⟨bb, o, cs, rfl, hP, hbw, hrep, hcs⟩ := (HR.out.ext hb1).at_ hlk
 obtain ⟨rfl, hf⟩ := range_rep.1 hrep
 have c0 := hcs 0 _ rfl; have c1 := hcs 1 _ rfl; have c2 := hcs 2 _ rfl; have c3 := hcs 3 _ rfl; simp only [RangeR_size, Nat.add_zero] at c0 c1 c2 c3
 obtain ⟨ho1, ho2, ho3, ho4⟩ := hbo
 have HA := jh (ja hlab (ja hlk hs))
 have hal : ((a.length : Nat) : Int) < l.length := by omega
 have hl0 : 0 ≤ ((a.length : Nat) : Int) := Int.natCast_nonneg _
 have HB1 := jh hb1
 subst hia
 clear hlab hlk hs hrep hcs hi hb1
 generalize hk : a.length = k at *
 clear hk
 by_cases h1 : x.first = m0
 ·have H1 := jh h1
  have g1 : (x.first == m0) = true := beq_iff_eq.2 h1
  clear h1
  go_wp2_with fail
  go_ret2
  rw [HF.out, if_pos (.inr (.inl H1.out))]
  exact ⟨⟨_, rfl, Rep.Own.nil_⟩, HB1.out⟩
 have H1 := jh h1
 have g1 : (x.first == m0) = false := jn h1
 by_cases h2 : x.epoch = 1099511627776
 ·have H2 := jh h2
  have g2 : (x.epoch == 1099511627776) = true := beq_iff_eq.2 h2
  clear h2 h1
  go_wp2_with fail
  go_ret2
  rw [HF.out, if_pos (.inr (.inr H2.out))]
  exact ⟨⟨_, rfl, Rep.Own.nil_⟩, HB1.out⟩
 have H2 := jh h2
 have g2 : (x.epoch == 1099511627776) = false := jn h2
 rw [if_neg (fun q => q.elim HI.out (fun q => q.elim H1.out H2.out))] at HF
 by_cases h3 : 64 ≤ l.length
 ·have H3 := jh h3
  have h3' : (64 : Int) ≤ l.length := by omega
  clear h1 h2
  go_wp2_with fail
  go_ret2
  rw [HF.out, if_pos H3.out]
  exact ⟨⟨_, rfl, Rep.Own.nil_⟩, HB1.out⟩
 rw [if_neg h3] at HF
 have h3' : (l.length : Int) < 64 := by omega
 have hz1 := HB1.out.size
 have hxe : x.epoch + 1 ≤ 1099511627776 := by omega
 clear h1 h2
 go_upto_region 6 with fail
 have y0 := On.cell c0
 have y1 := On.cell c1
 have y2 := On.cell c2
 have y3 := On.cell c3
 have hlo := jb w1.heap.size w1
 go_cut [7, 8] (fun av bv wx => ∃ ga gb : Nat, av = .pointer (some ⟨ga, 0, none⟩) ∧ bv = .pointer (some ⟨gb, 0, none⟩) ∧ Blk wx ga 27 x.cells ∧ Blk wx gb 27 x.cells ∧ ga ≠ gb ∧ w1.heap.size ≤ ga ∧ w1.heap.size ≤ gb ∧ Below w1.heap.size w1 wx)
 case first =>
  refine wp_region_mix (.fork [0, 1, 2, 3, 4, 5, 6, 7] 8 (.seg [] 9 (.seg [] 10 (.seg [] 11 (.leaf [])))) 9 (.seg [] 8 (.seg [] 10 (.seg [] 11 (.leaf []))))) (fun w' => ∃ d : Wd (On w1), w' = d.w) (by kernel_rfl) (by kernel_rfl) (fun _ _ d _ _ h => by cases d <;> exact h) (ClsW.mk hlo.drew) ?_
  unfold wpMix; simp only [pick, j1, j2, j3, j4]
  (repeat (show wpQuiet _ _ _ _ (_ :: _) _; go_big_quiet_step (fail))); refine qn ?_
  constructor
  ·go_wp2_with fail
   have hba := (jb w1.heap.size w1).al (.cells #[.int .i64 0, .int .i64 0, .int .i64 0, .int .i64 0] 27)
   (refine segw (D := On w1) (hba.drew) ?_; unfold wpMix; simp only [pick, j1, j2, j3, j4]; (repeat (show wpQuiet _ _ _ _ (_ :: _) _; go_big_quiet_step (fail))); refine qn ?_)
   go_wp2_with fail
   have hbb := (hba.al (.cells #[.int .i64 0, .int .i64 0, .int .i64 0, .int .i64 0] 27)).drew
   (refine segw (D := On w1) (hbb) ?_; unfold wpMix; simp only [pick, j1, j2, j3, j4]; (repeat (show wpQuiet _ _ _ _ (_ :: _) _; go_big_quiet_step (fail))); refine qn ?_)
   refine wpList_store_blk (cs := x.cells) rfl rfl rfl rfl rfl (((Blk.new w1 27 [.int .i64 0, .int .i64 0, .int .i64 0, .int .i64 0]).alloc (.cells #[.int .i64 0, .int .i64 0, .int .i64 0, .int .i64 0] 27)).ext (jb _ _).drew) (by kernel_rfl) rfl (by simp [Range.cells, Value.oneCell']) ?_
   intro w4 hB4 hO4 hz4
   have hN4 := ((Blk.new1 w1 (.cells #[.int .i64 0, .int .i64 0, .int .i64 0, .int .i64 0] 27) 27 [.int .i64 0, .int .i64 0, .int .i64 0, .int .i64 0]).ext (jb _ _).drew).only hO4 (by simp)
   have hb4 := hbb.trans (hO4.low (fun k e => by have e' : k = w1.heap.size := e; omega) hbb.size)
   (refine segw (D := On w1) (hb4) ?_; unfold wpMix; simp only [pick, j1, j2, j3, j4]; (repeat (show wpQuiet _ _ _ _ (_ :: _) _; go_big_quiet_step (fail))); refine qn ?_)
   refine wpList_store_blk (cs := x.cells) rfl rfl rfl rfl rfl hN4 (by kernel_rfl) rfl (by simp [Range.cells, Value.oneCell']) ?_
   intro w5 hB5 hO5 hz5
   have hA5 := hB4.only hO5 (by simp)
   have hb5 := hb4.trans (hO5.low (fun k e => by have e' : k = _ := e; rw [e']; simp) hb4.size)
   (refine segw (D := On w1) (hb5) ?_; unfold wpMix; simp only [pick, j2]; (repeat (show wpQuiet _ _ _ _ (_ :: _) _; go_big_quiet_step (fail))); refine qn ?_)
   have HZ := jh (ja hA5 (ja hB5 hb5))
   go_wp2_with fail
   go_meet
   exact ⟨_, _, rfl, rfl, HZ.out.1, HZ.out.2.1, by simp, Nat.le_refl _, by simp, HZ.out.2.2⟩
  ·go_wp2_with fail
   have hba := (jb w1.heap.size w1).al (.cells #[.int .i64 0, .int .i64 0, .int .i64 0, .int .i64 0] 27)
   (refine segw (D := On w1) (hba.drew) ?_; unfold wpMix; simp only [pick, j1, j2, j3, j4]; (repeat (show wpQuiet _ _ _ _ (_ :: _) _; go_big_quiet_step (fail))); refine qn ?_)
   go_wp2_with fail
   have hbb := (hba.al (.cells #[.int .i64 0, .int .i64 0, .int .i64 0, .int .i64 0] 27)).drew
   (refine segw (D := On w1) (hbb) ?_; unfold wpMix; simp only [pick, j1, j2, j3, j4]; (repeat (show wpQuiet _ _ _ _ (_ :: _) _; go_big_quiet_step (fail))); refine qn ?_)
   refine wpList_store_blk (cs := x.cells) rfl rfl rfl rfl rfl ((Blk.new1 w1 (.cells #[.int .i64 0, .int .i64 0, .int .i64 0, .int .i64 0] 27) 27 [.int .i64 0, .int .i64 0, .int .i64 0, .int .i64 0]).ext (jb _ _).drew) (by kernel_rfl) rfl (by simp [Range.cells, Value.oneCell']) ?_
   intro w4 hB4 hO4 hz4
   have hN4 := (((Blk.new w1 27 [.int .i64 0, .int .i64 0, .int .i64 0, .int .i64 0]).alloc (.cells #[.int .i64 0, .int .i64 0, .int .i64 0, .int .i64 0] 27)).ext (jb _ _).drew).only hO4 (by simp)
   have hb4 := hbb.trans (hO4.low (fun k e => by have e' : k = _ := e; rw [e']; simp) hbb.size)
   (refine segw (D := On w1) (hb4) ?_; unfold wpMix; simp only [pick, j1, j2, j3, j4]; (repeat (show wpQuiet _ _ _ _ (_ :: _) _; go_big_quiet_step (fail))); refine qn ?_)
   refine wpList_store_blk (cs := x.cells) rfl rfl rfl rfl rfl hN4 (by kernel_rfl) rfl (by simp [Range.cells, Value.oneCell']) ?_
   intro w5 hB5 hO5 hz5
   have hA5 := hB4.only hO5 (by simp)
   have hb5 := hb4.trans (hO5.low (fun k e => by have e' : k = w1.heap.size := e; omega) hb4.size)
   (refine segw (D := On w1) (hb5) ?_; unfold wpMix; simp only [pick, j2]; (repeat (show wpQuiet _ _ _ _ (_ :: _) _; go_big_quiet_step (fail))); refine qn ?_)
   have HZ := jh (ja hA5 (ja hB5 hb5))
   go_wp2_with fail
   go_meet
   exact ⟨_, _, rfl, rfl, HZ.out.1, HZ.out.2.1, by simp, by simp, Nat.le_refl _, HZ.out.2.2⟩
 case rest =>
  clear y0 y1 y2 y3 hlo c0 c1 c2 c3
  obtain ⟨ga, gb, rfl, rfl, hA, hB, hne, hga, hgb, hbc⟩ := hcut
  have a1 : wc.cell? ⟨ga, 1, none⟩ = some (.int .i64 x.last) := hA.cell 1
  have a3 : wc.cell? ⟨ga, 3, none⟩ = some (.int .i64 x.epoch) := hA.cell 3
  have b0 : wc.cell? ⟨gb, 0, none⟩ = some (.int .i64 x.first) := hB.cell 0
  have b3 : wc.cell? ⟨gb, 3, none⟩ = some (.int .i64 x.epoch) := hB.cell 3
  have f1 := hA.frozen 1
  have f3 := hA.frozen 3
  have k0 := hB.frozen 0
  have k3 := hB.frozen 3
  have HAB := jh (ja hA (ja hB hbc))
  have hne2 : gb ≠ ga := fun e => hne e.symm
  clear hA hB hbc
  go_upto_region 10 with fail
  refine forget (M := fun W => Code.wp _ _ _ _ W) (fun W => Blk W ga 27 [.int .i64 x.first, .int .i64 (m0 - 1), .int .i64 x.owner, .int .i64 (x.epoch + 1)] ∧ Blk W gb 27 [.int .i64 m0, .int .i64 x.last, .int .i64 x.owner, .int .i64 (x.epoch + 1)] ∧ Below w1.heap.size w1 W)
   ⟨(((HAB.out.1.set_ 3 _).only (Only.set_ (F := (· = gb)) rfl _) hne).set_ 1 _).only (Only.set_ (F := (· = gb)) rfl _) hne,
    ((((HAB.out.2.1.only (Only.set_ (F := (· = ga)) rfl _) hne2).set_ 3 _).only (Only.set_ (F := (· = ga)) rfl _) hne2).set_ 0 _), (((HAB.out.2.2.st hga _).st hgb _).st hga _).st hgb _⟩ ?_
  clear a1 a3 b0 b3 f1 f3 k0 k3
  rintro w4 ⟨hA4, hB4, hb4'⟩
  have a0 := On.cell (hA4.cell 0 : w4.cell? ⟨ga, 0, none⟩ = some (.int .i64 x.first))
  have a1 := On.cell (hA4.cell 1 : w4.cell? ⟨ga, 1, none⟩ = some (.int .i64 (m0 - 1)))
  have a2 := On.cell (hA4.cell 2 : w4.cell? ⟨ga, 2, none⟩ = some (.int .i64 x.owner))
  have a3 := On.cell (hA4.cell 3 : w4.cell? ⟨ga, 3, none⟩ = some (.int .i64 (x.epoch + 1)))
  have b0 := On.cell (hB4.cell 0 : w4.cell? ⟨gb, 0, none⟩ = some (.int .i64 m0))
  have b1 := On.cell (hB4.cell 1 : w4.cell? ⟨gb, 1, none⟩ = some (.int .i64 x.last))
  have b2 := On.cell (hB4.cell 2 : w4.cell? ⟨gb, 2, none⟩ = some (.int .i64 x.owner))
  have b3 := On.cell (hB4.cell 3 : w4.cell? ⟨gb, 3, none⟩ = some (.int .i64 (x.epoch + 1)))
  have HB4 := jh hb4'
  have hlo := jb w4.heap.size w4
  clear hA4 hB4 hb4'
  refine wp_region_mix (.seg [0, 1, 2, 3, 4, 6, 7, 8, 9] 5 (.seg [] 10 (.seg [] 11 (.leaf [12, 13])))) (fun w' => ∃ d : Wd (On w4), w' = d.w) (by kernel_rfl) (by kernel_rfl) (fun _ _ d _ _ h => by cases d <;> exact h) (ClsW.mk hlo.drew) ?_
  unfold wpMix; simp only [pick, j1, j2, j3, j4]
  (repeat (show wpQuiet _ _ _ _ (_ :: _) _; go_big_quiet_step (fail))); refine qn ?_
  have hrowA := HR.out.ext (HB1.out.tr HB4.out)
  have hpre := hrowA.pre k
  have hcut := hrowA.cut (k := k + 1) (n := l.length - (k + 1)) (cap := c) (by omega) hc.1
  rw [List.take_of_length_le (by rw [List.length_drop]; exact Nat.le_refl _)] at hcut
  have hcut := ja (fun e : c = k + 1 => (show RangeR.Row w4 (fun q => q < w.heap.size) (some ⟨bb, o, none⟩) (l.drop (k + 1)) from by rw [if_pos e] at hcut; exact hcut)) (fun e : ¬ c = k + 1 => (show RangeR.Row w4 (fun q => q < w.heap.size) (some ⟨bb, o + (k + 1) * 4, none⟩) (l.drop (k + 1)) from by rw [if_neg e] at hcut; exact hcut))
  have hl1 : (l.take k).length = k := by rw [List.length_take]; omega
  have hl2 : (l.drop (k + 1)).length = l.length - (k + 1) := List.length_drop
  have hfl : Range.fit ⟨x.first, m0 - 1, x.owner, x.epoch + 1⟩ := ⟨hf.1, ⟨by show (-9223372036854775808 : Int) ≤ m0 - 1; omega, by show m0 - 1 ≤ (9223372036854775807 : Int); omega⟩, hf.2.2.1, ⟨by show (-9223372036854775808 : Int) ≤ x.epoch + 1; omega, by show x.epoch + 1 ≤ (9223372036854775807 : Int); omega⟩⟩
  have hfh : Range.fit ⟨m0, x.last, x.owner, x.epoch + 1⟩ := ⟨⟨by show (-9223372036854775808 : Int) ≤ m0; omega, by show m0 ≤ (9223372036854775807 : Int); omega⟩, hf.2.1, hf.2.2.1, ⟨by show (-9223372036854775808 : Int) ≤ x.epoch + 1; omega, by show x.epoch + 1 ≤ (9223372036854775807 : Int); omega⟩⟩
  have HROW := jh (ja hpre (ja hcut (ja hl1 (ja hl2 (ja hfl hfh)))))
  have hz4 := HB4.out.size
  clear hpre hcut hl1 hl2 hfl hfh hrowA
  go_wp2_with fail
  all_goals have hb5 := hlo.al (.cells #[.int .i64 x.first, .int .i64 (m0 - 1), .int .i64 x.owner, .int .i64 (x.epoch + 1), .int .i64 m0, .int .i64 x.last, .int .i64 x.owner, .int .i64 (x.epoch + 1)] 27)
  case inl =>
   (refine segw (D := On w4) (hb5.drew) ?_; unfold wpMix; simp only [pick, j1, j2, j3, j4]; (repeat (show wpQuiet _ _ _ _ (_ :: _) _; go_big_quiet_step (fail))); refine qn ?_)
   go_wp2_with fail
   have hb6 := (hb5.al (.cells #[.slice (some ⟨bb, o, none⟩) k (k + 1), .slice (some ⟨w4.heap.size, 0, none⟩) 2 2, .slice (some ⟨bb, o, none⟩) (l.length - (k + 1)) 0] 58)).drew
   (refine segw (D := On w4) (hb6) ?_; unfold wpMix; simp only [pick, j1, j2, j3, j4]; (repeat (show wpQuiet _ _ _ _ (_ :: _) _; go_big_quiet_step (fail))); refine qn ?_)
   have hX : RowsAt (((w4.alloc (.cells #[.int .i64 x.first, .int .i64 (m0 - 1), .int .i64 x.owner, .int .i64 (x.epoch + 1), .int .i64 m0, .int .i64 x.last, .int .i64 x.owner, .int .i64 (x.epoch + 1)] 27)).alloc (.cells #[.slice (some ⟨bb, o, none⟩) k (k + 1), .slice (some ⟨w4.heap.size, 0, none⟩) 2 2, .slice (some ⟨bb, o, none⟩) (l.length - (k + 1)) 0] 58)).drew)
    (w4.heap.size + 2) (w4.heap.size + 1) [(some ⟨bb, o, none⟩, (k + 1), l.take k), (some ⟨w4.heap.size, 0, none⟩, 2, [⟨x.first, m0 - 1, x.owner, x.epoch + 1⟩, ⟨m0, x.last, x.owner, x.epoch + 1⟩]), (some ⟨bb, o, none⟩, 0, l.drop (k + 1))] := by
    obtain ⟨hpre, hcut, hl1, hl2, hfl, hfh⟩ := HROW.out
    refine ⟨?_, fun y hy => ?_⟩
    ·simp only [List.map_cons, List.map_nil, hl1, hl2]
     exact (Blk.new1 w4 _ 58 [.slice (some ⟨bb, o, none⟩) k (k + 1), .slice (some ⟨w4.heap.size, 0, none⟩) 2 2, .slice (some ⟨bb, o, none⟩) (l.length - (k + 1)) 0]).ext (jb _ _).drew
    ·simp only [List.mem_cons, List.not_mem_nil, or_false] at hy
     rcases hy with rfl | rfl | rfl
     ·exact (hpre.ext hb6).mono fun q hq _ => by omega
     ·exact range_row2 hfl hfh (((Blk.new w4 27 [.int .i64 x.first, .int .i64 (m0 - 1), .int .i64 x.owner, .int .i64 (x.epoch + 1), .int .i64 m0, .int .i64 x.last, .int .i64 x.owner, .int .i64 (x.epoch + 1)]).alloc _).ext (jb _ _).drew) (by omega)
     ·have hcut := hcut.1 h
      exact (hcut.ext hb6).mono fun q hq _ => by omega
   have hcat : catL [((some ⟨bb, o, none⟩ : Option Addr), (k + 1), l.take k), (some ⟨w4.heap.size, 0, none⟩, 2, [⟨x.first, m0 - 1, x.owner, x.epoch + 1⟩, ⟨m0, x.last, x.owner, x.epoch + 1⟩]), (some ⟨bb, o, none⟩, 0, l.drop (k + 1))] = (splitR l m0).1 := by
    rw [HF.out]; simp [catL]
   have hz : (((w4.alloc (.cells #[.int .i64 x.first, .int .i64 (m0 - 1), .int .i64 x.owner, .int .i64 (x.epoch + 1), .int .i64 m0, .int .i64 x.last, .int .i64 x.owner, .int .i64 (x.epoch + 1)] 27)).alloc (.cells #[.slice (some ⟨bb, o, none⟩) k (k + 1), .slice (some ⟨w4.heap.size, 0, none⟩) 2 2, .slice (some ⟨bb, o, none⟩) (l.length - (k + 1)) 0] 58)).drew).heap.size = w4.heap.size + 2 := by simp
   rw [← hz] at hX
   have hlen : (splitR l m0).1.length = l.length + 1 := by
    rw [HF.out]
    simp only [List.length_append, HROW.out.2.2.1, HROW.out.2.2.2.1, List.length_cons, List.length_nil]
    omega
   have CC := concat_any _ _ _ hX (by rw [hcat, hlen]; omega) (by rw [hcat, hlen]; omega) (by simp)
   rw [hcat] at CC
   unfold GotOwn at CC
   clear hX hcat hlen a0 a1 a2 a3 b0 b1 b2 b3
   have HSZ := jh (ja hz hb6)
   clear hz hb6 hb5
   go_wp2_with fail
   refine CC.mono ?_
   clear CC
   rintro e w6 ⟨⟨v6, rfl, ho6⟩, hb7⟩
   have hb8 := HSZ.out.2.tr hb7
   have HO := jh (ja ho6 hb8)
   obtain ⟨A6, c6, rfl, _⟩ := ho6.form
   clear ho6 hb7
   go_wp2_with fail
   (refine segw (D := On w4) (hb8) ?_; unfold wpMix; simp only [pick, j1, j2, j3, j4]; (repeat (show wpQuiet _ _ _ _ (_ :: _) _; go_big_quiet_step (fail))); refine qn ?_)
   clear hlo hb8
   go_wp2_with fail
   go_ret2
   have hb9 := HB4.out.tr HO.out.2
   refine ⟨⟨_, ?_, HO.out.1.base' (by have := HSZ.out.1; omega)⟩, HB1.out.tr hb9⟩
   rw [show (splitR l m0).2 = 0 from by rw [HF.out]]
   rfl
  case inr =>
   (refine segw (D := On w4) (hb5.drew) ?_; unfold wpMix; simp only [pick, j1, j2, j3, j4]; (repeat (show wpQuiet _ _ _ _ (_ :: _) _; go_big_quiet_step (fail))); refine qn ?_)
   go_wp2_with fail
   have hb6 := (hb5.al (.cells #[.slice (some ⟨bb, o, none⟩) k c, .slice (some ⟨w4.heap.size, 0, none⟩) 2 2, .slice (some ⟨bb, o + (k + 1) * 4, none⟩) (l.length - (k + 1)) (c - (k + 1))] 58)).drew
   (refine segw (D := On w4) (hb6) ?_; unfold wpMix; simp only [pick, j1, j2, j3, j4]; (repeat (show wpQuiet _ _ _ _ (_ :: _) _; go_big_quiet_step (fail))); refine qn ?_)
   have hX : RowsAt (((w4.alloc (.cells #[.int .i64 x.first, .int .i64 (m0 - 1), .int .i64 x.owner, .int .i64 (x.epoch + 1), .int .i64 m0, .int .i64 x.last, .int .i64 x.owner, .int .i64 (x.epoch + 1)] 27)).alloc (.cells #[.slice (some ⟨bb, o, none⟩) k c, .slice (some ⟨w4.heap.size, 0, none⟩) 2 2, .slice (some ⟨bb, o + (k + 1) * 4, none⟩) (l.length - (k + 1)) (c - (k + 1))] 58)).drew)
    (w4.heap.size + 2) (w4.heap.size + 1) [(some ⟨bb, o, none⟩, c, l.take k), (some ⟨w4.heap.size, 0, none⟩, 2, [⟨x.first, m0 - 1, x.owner, x.epoch + 1⟩, ⟨m0, x.last, x.owner, x.epoch + 1⟩]), (some ⟨bb, o + (k + 1) * 4, none⟩, (c - (k + 1)), l.drop (k + 1))] := by
    obtain ⟨hpre, hcut, hl1, hl2, hfl, hfh⟩ := HROW.out
    refine ⟨?_, fun y hy => ?_⟩
    ·simp only [List.map_cons, List.map_nil, hl1, hl2]
     exact (Blk.new1 w4 _ 58 [.slice (some ⟨bb, o, none⟩) k c, .slice (some ⟨w4.heap.size, 0, none⟩) 2 2, .slice (some ⟨bb, o + (k + 1) * 4, none⟩) (l.length - (k + 1)) (c - (k + 1))]).ext (jb _ _).drew
    ·simp only [List.mem_cons, List.not_mem_nil, or_false] at hy
     rcases hy with rfl | rfl | rfl
     ·exact (hpre.ext hb6).mono fun q hq _ => by omega
     ·exact range_row2 hfl hfh (((Blk.new w4 27 [.int .i64 x.first, .int .i64 (m0 - 1), .int .i64 x.owner, .int .i64 (x.epoch + 1), .int .i64 m0, .int .i64 x.last, .int .i64 x.owner, .int .i64 (x.epoch + 1)]).alloc _).ext (jb _ _).drew) (by omega)
     ·have hcut := hcut.2 h
      exact (hcut.ext hb6).mono fun q hq _ => by omega
   have hcat : catL [((some ⟨bb, o, none⟩ : Option Addr), c, l.take k), (some ⟨w4.heap.size, 0, none⟩, 2, [⟨x.first, m0 - 1, x.owner, x.epoch + 1⟩, ⟨m0, x.last, x.owner, x.epoch + 1⟩]), (some ⟨bb, o + (k + 1) * 4, none⟩, (c - (k + 1)), l.drop (k + 1))] = (splitR l m0).1 := by
    rw [HF.out]; simp [catL]
   have hz : (((w4.alloc (.cells #[.int .i64 x.first, .int .i64 (m0 - 1), .int .i64 x.owner, .int .i64 (x.epoch + 1), .int .i64 m0, .int .i64 x.last, .int .i64 x.owner, .int .i64 (x.epoch + 1)] 27)).alloc (.cells #[.slice (some ⟨bb, o, none⟩) k c, .slice (some ⟨w4.heap.size, 0, none⟩) 2 2, .slice (some ⟨bb, o + (k + 1) * 4, none⟩) (l.length - (k + 1)) (c - (k + 1))] 58)).drew).heap.size = w4.heap.size + 2 := by simp
   rw [← hz] at hX
   have hlen : (splitR l m0).1.length = l.length + 1 := by
    rw [HF.out]
    simp only [List.length_append, HROW.out.2.2.1, HROW.out.2.2.2.1, List.length_cons, List.length_nil]
    omega
   have CC := concat_any _ _ _ hX (by rw [hcat, hlen]; omega) (by rw [hcat, hlen]; omega) (by simp)
   rw [hcat] at CC
   unfold GotOwn at CC
   clear hX hcat hlen a0 a1 a2 a3 b0 b1 b2 b3
   have HSZ := jh (ja hz hb6)
   clear hz hb6 hb5
   go_wp2_with fail
   refine CC.mono ?_
   clear CC
   rintro e w6 ⟨⟨v6, rfl, ho6⟩, hb7⟩
   have hb8 := HSZ.out.2.tr hb7
   have HO := jh (ja ho6 hb8)
   obtain ⟨A6, c6, rfl, _⟩ := ho6.form
   clear ho6 hb7
   go_wp2_with fail
   (refine segw (D := On w4) (hb8) ?_; unfold wpMix; simp only [pick, j1, j2, j3, j4]; (repeat (show wpQuiet _ _ _ _ (_ :: _) _; go_big_quiet_step (fail))); refine qn ?_)
   clear hlo hb8
   go_wp2_with fail
   go_ret2
   have hb9 := HB4.out.tr HO.out.2
   refine ⟨⟨_, ?_, HO.out.1.base' (by have := HSZ.out.1; omega)⟩, HB1.out.tr hb9⟩
   rw [show (splitR l m0).2 = 0 from by rw [HF.out]]
   rfl
end Go.Proofs.YtcmjgghkmdbphaaGreatDoor
namespace Go.Proofs.YtcmjgghkmdbphaaGreatDoor
open Go.RowKit
theorem idxF_Rec (F : FuncId) (caps : List Value) (p : Rec → Bool) (hent : ∀ args w, (callFunc F args).run Tryz.prog w = .ok (.enter F args) w) (A : Option Addr) (c : Nat) (l : List Rec) (P : Nat → Prop) (w : World) (hr : RecR.Row w P A l) (hl : l.length ≤ 9223372036854775807) (hF : Tells RecR aggV F caps P p l w) :
 Calls Tryz.prog 193 #[.slice A l.length c, .func (.func F) #[] caps.toArray] w fun e w' => e = .returned (.int .i64 (idxI p l)) ∧ Below w.heap.size w w' := by
 have HF := jh hF; clear hF
 have HR := jh hr; clear hr
 go_enter Tryz.func193, Tryz.ntmps193
 go_wp2
 go_loopw [5, 8] (fun _ i wr => ∃ k : Nat, k ≤ l.length ∧ i = .int .i64 k ∧ (∀ (j : Nat) (b : Rec), j < k → l[j]? = some b → p b = false) ∧ Below w.heap.size w wr) (fun _ i _ => l.length - (intOf i).toNat)
 case atStart => exact ⟨0, Nat.zero_le _, rfl, fun j b hj => absurd hj (by omega), jb _ _⟩
 case round =>
  obtain ⟨k, hk, rfl, hno, hbl⟩ := hrel
  have HN := jh hno; clear hno
  by_cases hlt : k < l.length
  ·have hlk := jg hlt
   generalize l[k] = a at hlk
   obtain ⟨b, o, cs, rfl, hP, hbw, hrep, hcs⟩ := (HR.out.ext hbl).at_ hlk
   have C := HF.out a cs wr (List.mem_of_getElem? hlk) hrep hbl
   have HK := jh hlk; clear hlk
   have hlt' : (k : Int) < l.length := by omega
   obtain ⟨nA, nc, pA, pc, sA, sc, rfl, _⟩ := rec_rep.1 hrep
   have c0 := hcs 0 _ rfl; have c1 := hcs 1 _ rfl; have c2 := hcs 2 _ rfl; have c3 := hcs 3 _ rfl; have c4 := hcs 4 _ rfl; have c5 := hcs 5 _ rfl; have c6 := hcs 6 _ rfl; have c7 := hcs 7 _ rfl; have c8 := hcs 8 _ rfl; have c9 := hcs 9 _ rfl; have c10 := hcs 10 _ rfl; have c11 := hcs 11 _ rfl; have c12 := hcs 12 _ rfl; have c13 := hcs 13 _ rfl; have c14 := hcs 14 _ rfl; have c15 := hcs 15 _ rfl; have c16 := hcs 16 _ rfl; have c17 := hcs 17 _ rfl; simp only [RecR_size, Nat.add_zero] at c0 c1 c2 c3 c4 c5 c6 c7 c8 c9 c10 c11 c12 c13 c14 c15 c16 c17
   dsimp only [aggV, Rec.cells] at C
   clear hcs
   try clear hrep
   have HC := jh C; clear C
   go_wp2_with fail
   refine HC.out.mono ?_
   cases hp : p a with
   | true =>
     have HP := jh hp; clear hp
     rintro e w1 ⟨rfl, hb1⟩
     go_wp2
     go_ret
     exact ⟨ret_int (idxI_some HK.out HP.out HN.out).symm, hbl.tr hb1⟩
   | false =>
     have HP := jh hp; clear hp
     rintro e w1 ⟨rfl, hb1⟩
     go_wp2
     go_round
     case rel =>
      refine ⟨k + 1, by omega, by go_num, fun j x hj hx => ?_, hbl.tr hb1⟩
      by_cases hjk : j < k
      ·exact HN.out j x hjk hx
      ·have : j = k := by omega
       subst this
       have h1 := HK.out
       rw [hx] at h1
       injection h1 with h1
       rw [h1]; exact HP.out
     case measure => simp [intOf]; omega
  ·go_wp2
   go_ret
   refine ⟨ret_int (idxI_none fun j x hx => HN.out j x ?_ hx).symm, hbl⟩
   have := (List.getElem?_eq_some_iff.1 hx).1
   omega
end Go.Proofs.YtcmjgghkmdbphaaGreatDoor
namespace Go.Proofs.YtcmjgghkmdbphaaGreatDoor
open Go.RowKit Go.Shelf
theorem icedHas_any (h : Int) (b : Nat) (r : Rec) (nA pA sA : Option Addr) (nc pc sc : Nat) (w : World) (hb : w.cell? ⟨b, 0, none⟩ = some (.int .i64 h)) :
 Calls Tryz.prog 263 #[.agg (r.cells nA nc pA pc sA sc).toArray, .pointer (some ⟨b, 0, none⟩)] w fun e w' => e = .returned (.bool (r.range.has h)) ∧ Below w.heap.size w w' := by
 have hlt := lt_of_cell hb
 have hb1 := (jb w.heap.size w).al (.cells (r.cells nA nc pA pc sA sc).toArray 46)
 have B0 := Blk.new w 46 (r.cells nA nc pA pc sA sc)
 have C1 := fun W => has_any r.range h W
 unfold Range.val at C1
 go_enter Tryz.func263, Tryz.ntmps263
 go_upto_region 1 with fail
 refine forget (M := fun W => Code.wp _ _ _ _ W) (fun W => Below w.heap.size w W ∧ Blk W w.heap.size 46 (r.cells nA nc pA pc sA sc)) ⟨hb1, B0⟩ ?_
 clear B0 hb1
 rintro w1 ⟨hb1, B0⟩
 have x13 : w1.cell? ⟨w.heap.size, 13, none⟩ = some (.int .i64 r.range.first) := B0.cell 13
 have x14 : w1.cell? ⟨w.heap.size, 14, none⟩ = some (.int .i64 r.range.last) := B0.cell 14
 have x15 : w1.cell? ⟨w.heap.size, 15, none⟩ = some (.int .i64 r.range.owner) := B0.cell 15
 have x16 : w1.cell? ⟨w.heap.size, 16, none⟩ = some (.int .i64 r.range.epoch) := B0.cell 16
 have y0 : w1.cell? ⟨b, 0, none⟩ = some (.int .i64 h) := (Below.cell hb1 (p := ⟨b, 0, none⟩) hlt).trans hb
 have HB := jh hb1
 clear B0 hb1 hb
 go_wp2_with fail
 refine (C1 _).mono ?_
 rintro e w2 ⟨rfl, hb2⟩
 have HB2 := jh (HB.out.tr hb2)
 clear hb2
 go_wp2_with fail
 go_ret
 exact ⟨rfl, HB2.out⟩
theorem enters_iced : ∀ args w, (callFunc 263 args).run Tryz.prog w = .ok (.enter 263 args) w := enters_of Tryz.func263 (by kernel_rfl) rfl
theorem iced_any (g : Nat) (s : St) (h : Int) (P : Nat → Prop) (w : World) (hst : StAt w P g s) (hl : s.frozen.length ≤ 1000000) :
 Calls Tryz.prog 181 #[ptrV g, .int .i64 h] w fun e w' => e = .returned (.int .i64 (icedS s h)) ∧ Below w.heap.size w w' := by
 obtain ⟨v, hB, hI⟩ := hst
 obtain ⟨A, c, hv, hc1, hc2, hrow⟩ := hI.frozen
 have hvl : v.frozen = .slice A s.frozen.length c := by injection hv
 have hb0 := (jb w.heap.size w).al (.cells #[.int .i64 h] 3)
 have B0 := Blk.new w 3 [.int .i64 h]
 have y9 : (w.alloc (.cells #[.int .i64 h] 3)).cell? ⟨g, 9, none⟩ = some v.frozen := (hB.ext hb0).cell 9
 rw [hvl] at y9
 have C := idxF_Rec 263 [.pointer (some ⟨w.heap.size, 0, none⟩)] (fun f => f.range.has h) enters_iced A c s.frozen P (w.alloc (.cells #[.int .i64 h] 3)) (hrow.ext hb0) (by omega) (fun a cs W' _ ha hb' => by
  obtain ⟨nA, nc, pA, pc, sA, sc, rfl, _⟩ := rec_rep.1 ha
  exact icedHas_any h w.heap.size a nA pA sA nc pc sc W' ((B0.ext hb').cell 0))
 have HB0 := jh hb0
 clear hB hI hv hvl hrow B0 hb0
 unfold ptrV
 go_enter Tryz.func181, Tryz.ntmps181
 go_wp2_with fail
 refine C.mono ?_
 clear C y9
 rintro e w2 ⟨rfl, hb2⟩
 go_wp2_with fail
 go_ret
 exact ⟨rfl, HB0.out.tr hb2⟩
theorem ssplit_any (g : Nat) (s : St) (r : Rec) (nA pA sA : Option Addr) (nc pc sc : Nat) (P Q : Nat → Prop) (w : World) (h : StAt w P g s) (hg : ¬ P g) (hS : Fit s)
 (hr : RecAt w Q r nA nc pA pc sA sc) :
 Calls Tryz.prog 94 #[ptrV g, .agg (r.cells nA nc pA pc sA sc).toArray] w (StOut w P g (splitS s r)) := by
 have hgl := h.lt
 have HH := jh (ja h (ja hg hS))
 have hn := hr.n
 clear h hg hS hr
 have hb1 := (jb w.heap.size w).al (.cells (r.cells nA nc pA pc sA sc).toArray 46)
 have B0 := Blk.new w 46 (r.cells nA nc pA pc sA sc)
 have hs1 : (w.alloc (.cells (r.cells nA nc pA pc sA sc).toArray 46)).heap.size = w.heap.size + 1 := by simp
 unfold ptrV
 go_enter Tryz.func94, Tryz.ntmps94
 go_upto_region 1 with fail
 refine forget (M := fun W => Code.wp _ _ _ _ W) (fun W => Below w.heap.size w W ∧ Blk W w.heap.size 46 (r.cells nA nc pA pc sA sc) ∧ W.heap.size = w.heap.size + 1) ⟨hb1, B0, hs1⟩ ?_
 clear B0 hb1 hs1
 rintro w1 ⟨hb1, B0, hs1⟩
 obtain ⟨v, hB, hI⟩ := HH.out.1
 obtain ⟨Ar, cr, hv, hc1, hc2, hrow⟩ := hI.ring
 have hvl : v.ring = .slice Ar s.ring.length cr := by injection hv
 have y4 : w1.cell? ⟨g, 4, none⟩ = some v.ring := (hB.ext hb1).cell 4
 rw [hvl] at y4
 have y4 := On.cell y4
 have z1 := On.cell (B0.cell 1 : w1.cell? ⟨w.heap.size, 1, none⟩ = some (.int .i64 r.n))
 have hq : findR s.ring r.n = ((findR s.ring r.n).1, (findR s.ring r.n).2) := rfl
 have HSP := jh (show splitS s r = (if (findR s.ring r.n).2 = false ∨ (findR s.ring r.n).1.owner ≠ s.self then (s, 8) else if 0 ≤ icedS s r.n ∨ 64 ≤ s.ring.length then (s, 11) else if (splitR s.ring r.n).2 = 0 then ({ s with ring := (splitR s.ring r.n).1 }, 0) else (s, (splitR s.ring r.n).2)) from rfl)
 have CF := jh (fun W (hW : Below w.heap.size w W) => find_any Ar cr s.ring r.n P W (hrow.ext hW) HH.out.2.2.ring)
 generalize findR s.ring r.n = q at *
 have H1 := jh (ja hb1 (ja B0 hs1))
 have HV := jh (ja hB (ja hI (ja hvl (ja hrow hc2))))
 have hcl := hc1
 clear hB hI hv hvl hrow hb1 B0 hs1 hq hc1 hc2
 have hlo := jb w1.heap.size w1
 have CF1 := CF.out
 unfold Found at CF1
 go_cut [5, 6] (fun xv okv wx => ∃ xb : Nat, xv = .pointer (some ⟨xb, 0, none⟩) ∧ okv = .bool q.2 ∧ Blk wx xb 27 q.1.cells ∧ Below w1.heap.size w1 wx ∧ w1.heap.size ≤ xb)
 case first =>
  refine wp_region_mix (.fork [0, 1, 2, 3, 4, 5] 6 (.seg [7, 8, 9] 10 (.seg [] 11 (.leaf [12]))) 10 (.seg [] 6 (.seg [7, 8, 9] 11 (.leaf [12])))) (fun w' => ∃ d : Wd (On w1), w' = d.w) (by kernel_rfl) (by kernel_rfl) (fun _ _ d _ _ h => by cases d <;> exact h) (ClsW.mk hlo.drew) ?_
  unfold wpMix; simp only [pick, j1, j2, j3, j4]
  (repeat (show wpQuiet _ _ _ _ (_ :: _) _; go_big_quiet_step (fail))); refine qn ?_
  constructor
  ·go_wp2_with fail
   refine (CF1 w1.drew (H1.out.1.tr (jb _ w1).drew)).mono ?_
   rintro e w3 ⟨rfl, hb3'⟩
   have hb3 : Below w1.heap.size w1 w3 := (jb _ w1).drew.tr hb3'
   clear hb3'
   go_wp2_with fail
   (refine segw (D := On w1) (hb3) ?_; unfold wpMix; simp only [pick, j1, j2, j3, j4]; (repeat (show wpQuiet _ _ _ _ (_ :: _) _; go_big_quiet_step (fail))); refine qn ?_)
   go_wp2_with fail
   have hb4 := hb3.al (.cells #[.int .i64 0, .int .i64 0, .int .i64 0, .int .i64 0] 27)
   have hz3 := hb3.size
   (refine segw (D := On w1) (hb4) ?_; unfold wpMix; simp only [pick, j1, j2, j3, j4]; (repeat (show wpQuiet _ _ _ _ (_ :: _) _; go_big_quiet_step (fail))); refine qn ?_)
   refine wpList_store_new (cs := q.1.cells.toArray) rfl rfl rfl rfl rfl (by kernel_rfl) rfl (by simp [Range.cells, Value.oneCell']) ?_
   have hb5 := hb3.al (.cells q.1.cells.toArray 27)
   (refine segw (D := On w1) (hb5) ?_; unfold wpMix; simp only [pick, j1, j2, j3, j4]; (repeat (show wpQuiet _ _ _ _ (_ :: _) _; go_big_quiet_step (fail))); refine qn ?_)
   have HZ := jh (ja (Blk.new w3 27 q.1.cells) (ja hb5 hz3))
   go_wp2_with fail
   go_meet
   exact ⟨_, rfl, rfl, HZ.out.1, HZ.out.2.1, HZ.out.2.2⟩
  ·go_wp2_with fail
   have hb4 := ((jb w1.heap.size w1).al (.cells #[.int .i64 0, .int .i64 0, .int .i64 0, .int .i64 0] 27)).drew
   (refine segw (D := On w1) (hb4) ?_; unfold wpMix; simp only [pick, j1, j2, j3, j4]; (repeat (show wpQuiet _ _ _ _ (_ :: _) _; go_big_quiet_step (fail))); refine qn ?_)
   go_wp2_with fail
   refine (CF1 _ (H1.out.1.tr hb4)).mono ?_
   rintro e w3 ⟨rfl, hb3'⟩
   have BK := ((Blk.new w1 27 [.int .i64 0, .int .i64 0, .int .i64 0, .int .i64 0]).ext (jb _ _).drew).ext hb3'
   have hb5 : Below w1.heap.size w1 w3 := hb4.tr hb3'
   clear hb3'
   go_wp2_with fail
   (refine segw (D := On w1) (hb5) ?_; unfold wpMix; simp only [pick, j1, j2, j3, j4]; (repeat (show wpQuiet _ _ _ _ (_ :: _) _; go_big_quiet_step (fail))); refine qn ?_)
   refine wpList_store_blk (cs := q.1.cells) rfl rfl rfl rfl rfl BK (by kernel_rfl) rfl (by simp [Range.cells, Value.oneCell']) ?_
   intro w5 hB5 hO5 hz5
   have hb6 := hb5.trans (hO5.low (fun k e => by have e' : k = w1.heap.size := e; omega) hb5.size)
   (refine segw (D := On w1) (hb6) ?_; unfold wpMix; simp only [pick, j1, j2, j3, j4]; (repeat (show wpQuiet _ _ _ _ (_ :: _) _; go_big_quiet_step (fail))); refine qn ?_)
   have HZ := jh (ja hB5 hb6)
   go_wp2_with fail
   go_meet
   exact ⟨_, rfl, rfl, HZ.out.1, HZ.out.2, Nat.le_refl _⟩
 case rest =>
  clear y4 z1 hlo CF CF1
  obtain ⟨xb, rfl, rfl, hX, hbc, hxb⟩ := hcut
  have hbw := H1.out.1.tr hbc
  have hzc := hbc.size
  have hz1 := H1.out.2.2
  obtain ⟨x, ok⟩ := q
  dsimp only at hX HSP
  cases ok
  ·have HE := jh (ja (HSP.out.trans (if_pos (.inl rfl))) hbw)
   clear hX hbc hbw
   go_wp2_with fail
   go_quiet (fail)
   go_wp2_with fail
   go_ret
   unfold StOut
   rw [HE.out.1]
   obtain ⟨v', a1, a2⟩ := HH.out.1
   exact ⟨rfl, ⟨v', a1.ext (HE.out.2.drewN _), (a2.same (js (HE.out.2.drewN _))).mono fun k hk => .inl hk⟩, jo (HE.out.2.drewN _)⟩
  ·have x2 : wc.cell? ⟨xb, 2, none⟩ = some (.int .i64 x.owner) := hX.cell 2
   have y0 : wc.cell? ⟨g, 0, none⟩ = some (.int .i64 s.self) := (HV.out.1.ext hbw).cell 0
   have HBW := jh (ja hbw hbc)
   clear hX hbc hbw
   by_cases ho : x.owner = s.self
   ·have HOW := jh ho
    have CI := jh (fun W (hW : Below w.heap.size w W) => iced_any g s r.n P W (by obtain ⟨v', a1, a2⟩ := HH.out.1; exact ⟨v', a1.ext hW, a2.same (js hW)⟩) HH.out.2.2.frozen)
    rw [ho] at x2
    clear ho
    go_wp2_with fail
    go_quiet (fail)
    clear x2 y0
    have hb4 : Below w.heap.size w (wc.drewN nq) := HBW.out.1.drewN _
    have z1 : (wc.drewN nq).cell? ⟨w.heap.size, 1, none⟩ = some (.int .i64 r.n) := (H1.out.2.1.ext (HBW.out.2.drewN _)).cell 1
    generalize hw4 : wc.drewN nq = w4 at *
    have HB4 := jh (ja hb4 (show Below w1.heap.size w1 w4 from hw4 ▸ HBW.out.2.drewN _))
    have CI4 := CI.out w4 hb4
    unfold ptrV at CI4
    clear hb4 hw4 CI
    go_wp2_with fail
    refine CI4.mono ?_
    clear CI4 z1
    rintro e w5 ⟨rfl, hb5'⟩
    have hb5 : Below w.heap.size w w5 := HB4.out.1.tr hb5'
    have y4 : w5.cell? ⟨g, 4, none⟩ = some v.ring := (HV.out.1.ext hb5).cell 4
    rw [HV.out.2.2.1] at y4
    have z1 : w5.cell? ⟨w.heap.size, 1, none⟩ = some (.int .i64 r.n) := (H1.out.2.1.ext (HB4.out.2.tr hb5')).cell 1
    have HB5 := jh hb5
    clear hb5 hb5'
    by_cases hi : 0 ≤ icedS s r.n
    ·have HE := jh (HSP.out.trans ((if_neg (by simp [HOW.out])).trans (if_pos (.inl hi))))
     clear z1 y4
     generalize icedS s r.n = ic at *
     go_wp2_with fail
     go_ret
     unfold StOut
     rw [HE.out]
     obtain ⟨v', a1, a2⟩ := HH.out.1
     exact ⟨rfl, ⟨v', a1.ext HB5.out, (a2.same (js HB5.out)).mono fun k hk => .inl hk⟩, jo HB5.out⟩
    ·by_cases h64 : 64 ≤ s.ring.length
     ·have HE := jh (HSP.out.trans ((if_neg (by simp [HOW.out])).trans (if_pos (.inr h64))))
      have h64' : (64 : Int) ≤ s.ring.length := by omega
      generalize icedS s r.n = ic at *
      clear z1
      go_wp2_with fail
      go_ret
      unfold StOut
      rw [HE.out]
      obtain ⟨v', a1, a2⟩ := HH.out.1
      exact ⟨rfl, ⟨v', a1.ext HB5.out, (a2.same (js HB5.out)).mono fun k hk => .inl hk⟩, jo HB5.out⟩
     ·have HE := jh (HSP.out.trans ((if_neg (by simp [HOW.out])).trans (if_neg (by simp [hi, h64]))))
      have h64' : (s.ring.length : Int) < 64 := by omega
      have h64n : ¬ ((64 : Int) ≤ s.ring.length) := by omega
      generalize icedS s r.n = ic at *
      go_upto_region 6 with fail
      have u4 := On.cell y4
      have u1 := On.cell z1
      have hlo := jb w5.heap.size w5
      clear y4 z1
      refine wp_region_mix (.seg [0, 1, 2, 3, 4, 5] 6 (.leaf [7, 8, 9, 10, 11])) (fun w' => ∃ d : Wd (On w5), w' = d.w) (by kernel_rfl) (by kernel_rfl) (fun _ _ d _ _ h => by cases d <;> exact h) (ClsW.mk hlo.drew) ?_
      unfold wpMix; simp only [pick, j1, j2, j3, j4]
      (repeat (show wpQuiet _ _ _ _ (_ :: _) _; go_big_quiet_step (fail))); refine qn ?_
      have CS := split_any Ar cr s.ring r.n P w5.drew (HV.out.2.2.2.1.ext HB5.out.drew) ⟨hcl, HV.out.2.2.2.2⟩ (by omega)
      unfold GotSplit at CS
      generalize splitR s.ring r.n = sp at *
      obtain ⟨l', code⟩ := sp
      dsimp only at CS HE
      go_wp2_with fail
      refine CS.mono ?_
      clear CS
      rintro e w6 ⟨⟨v6, rfl, ho6⟩, hb6'⟩
      have hb6 : Below w5.heap.size w5 w6 := hlo.drew.tr hb6'
      obtain ⟨A6, c6, hv6, hc6, hc7⟩ := ho6.form
      subst hv6
      have H6 := jh (ja ho6 (ja hc6 hc7))
      have HB6 := jh (HB5.out.tr hb6)
      clear ho6 hb6' hc6 hc7
      go_wp2_with fail
      (refine segw (D := On w5) (hb6) ?_; unfold wpMix; simp only [pick, j1, j2, j3, j4]; (repeat (show wpQuiet _ _ _ _ (_ :: _) _; go_big_quiet_step (fail))); refine qn ?_)
      clear u4 u1 hb6 hlo
      have y4 : w6.cell? ⟨g, 4, none⟩ = some v.ring := (HV.out.1.ext HB6.out).cell 4
      have f4 := (HV.out.1.ext HB6.out).frozen 4
      by_cases hcode : code = 0
      ·subst hcode
       go_wp2_with fail
       go_ret
       unfold StOut
       rw [HE.out]
       have hI6 := HV.out.2.1.same (js HB6.out)
       have hO : Only (· = g) w6 (w6.setCell ⟨g, 4, none⟩ (.slice A6 l'.length c6)) := Only.set_ (F := (· = g)) rfl _
       have hI7 := (hI6.same (Same.of_only hO fun k hk e => HH.out.2.1 (e ▸ hk))).mono (Q := fun k => P k ∨ w.heap.size ≤ k) fun k hk => .inl hk
       refine ⟨rfl, ⟨{ v with ring := .slice A6 l'.length c6 }, (HV.out.1.ext HB6.out).set_ 4 _, { hI7 with ring := ⟨A6, c6, rfl, H6.out.2.1, H6.out.2.2, ?_⟩ }⟩, (jo HB6.out).tr hO⟩
       refine (H6.out.1.row' range_plain (P := fun k => w.heap.size ≤ k ∧ k ≠ g) fun q hq => ?_).same (Same.of_only hO fun k hk e => hk.2 e) hO.size |>.mono fun k hk _ => .inr hk.1
       have h1 := (H6.out.1.lt q hq).1
       have h2 := HB5.out.size
       have h3 : w5.drew.heap.size = w5.heap.size := rfl
       omega
      ·have hc0 : (code == 0) = false := jn hcode
       have HE2 := jh (HE.out.trans (if_neg hcode))
       clear hcode
       go_wp2_with fail
       go_ret
       unfold StOut
       rw [HE2.out]
       obtain ⟨v', a1, a2⟩ := HH.out.1
       exact ⟨rfl, ⟨v', a1.ext HB6.out, (a2.same (js HB6.out)).mono fun k hk => .inl hk⟩, jo HB6.out⟩
   ·have hne : (x.owner == s.self) = false := jn ho
    have HE := jh (HSP.out.trans (if_pos (.inr ho)))
    clear ho
    go_wp2_with fail
    go_quiet (fail)
    go_wp2_with fail
    go_ret
    unfold StOut
    rw [HE.out]
    obtain ⟨v', a1, a2⟩ := HH.out.1
    exact ⟨rfl, ⟨v', a1.ext (HBW.out.1.drewN _), (a2.same (js (HBW.out.1.drewN _))).mono fun k hk => .inl hk⟩, jo (HBW.out.1.drewN _)⟩
end Go.Proofs.YtcmjgghkmdbphaaGreatDoor
