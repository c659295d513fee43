/- state.freeze. state.Apply for a freeze; state.span, newer. state.newer. state.around: a ring with a range laid in. table.Table.Drop. -/
import Derived.Test.YtcmjgghkmdbphaaGreatDoorB17
import Derived.Test.YtcmjgghkmdbphaaGreatDoorB14
import Derived.Test.YtcmjgghkmdbphaaGreatDoorB16
import Derived.Test.YtcmjgghkmdbphaaGreatDoorB09
set_option maxRecDepth 20000
set_option maxHeartbeats 25600000
namespace Go.Proofs.YtcmjgghkmdbphaaGreatDoor
open Go.RowKit
structure FzE (r : Rec) : Prop where
 nodes : r.nodes = []
 puts : r.batch.puts = []
 streams : r.streams = []
theorem freeze_empty {r : Rec} (h : checkR r = 0) (hk : r.kind = 9 ∨ r.kind = 11) : FzE r := by
 obtain ⟨_, h2, _, _⟩ := checkR_iff.1 h
 rcases hk with hk | hk <;> rw [hk] at h2 <;> simp [spareB, fieldsF] at h2 <;> exact ⟨by simp [h2], by simp [h2], by simp [h2]⟩
theorem rec_empty {w w' : World} {P : Nat → Prop} {r : Rec} {nA pA sA : Option Addr} {nc pc sc : Nat} (h : RecAt w P r nA nc pA pc sA sc) (he : FzE r) : RecAt w' (fun _ => False) r nA nc pA pc sA sc :=
 { h with
   nodes := ⟨h.nodes.1, h.nodes.2.1, by rw [he.nodes]; exact Rep.Row.nil_⟩
   puts := ⟨h.puts.1, h.puts.2.1, by rw [he.puts]; exact Rep.Row.nil_⟩
   streams := ⟨h.streams.1, h.streams.2.1, by rw [he.streams]; exact Rep.Row.nil_⟩ }
theorem freeze_any (g : Nat) (s : St) (r : Rec) (nA pA sA : Option Addr) (nc pc sc : Nat) (P Q : Nat → Prop) (w : World) (h : StAt w P g s) (hg : ¬ P g) (hS : Fit s)
 (hr : RecAt w Q r nA nc pA pc sA sc) (he : FzE r) :
 Calls Tryz.prog 95 #[ptrV g, .agg (r.cells nA nc pA pc sA sc).toArray] w (StOut w P g (freezeS s r)) := by
 have hgl := h.lt
 have HH := jh (ja h (ja hg (ja hS (ja hr he))))
 clear h hg hS hr he
 have hb1 := (jb w.heap.size w).al (.cells (r.cells nA nc pA pc sA sc).toArray 46)
 have B0 := Blk.new w 46 (r.cells nA nc pA pc sA sc)
 have hs1 : (w.alloc (.cells (r.cells nA nc pA pc sA sc).toArray 46)).heap.size = w.heap.size + 1 := by simp
 unfold ptrV
 go_enter Tryz.func95, Tryz.ntmps95
 go_upto_region 1 with fail
 refine forget (M := fun W => Code.wp _ _ _ _ W) (fun W => Below w.heap.size w W ∧ Blk W w.heap.size 46 (r.cells nA nc pA pc sA sc) ∧ W.heap.size = w.heap.size + 1) ⟨hb1, B0, hs1⟩ ?_
 clear B0 hb1 hs1
 rintro w1 ⟨hb1, B0, hs1⟩
 obtain ⟨v, hB, hI⟩ := HH.out.1
 obtain ⟨Ar, cr, hv, hc1, hc2, hrow⟩ := hI.ring
 have hvl : v.ring = .slice Ar s.ring.length cr := by injection hv
 have y4 : w1.cell? ⟨g, 4, none⟩ = some v.ring := (hB.ext hb1).cell 4
 rw [hvl] at y4
 have y4 := On.cell y4
 have y0 := On.cell ((hB.ext hb1).cell 0 : w1.cell? ⟨g, 0, none⟩ = some (.int .i64 s.self))
 have z13 := On.cell (B0.cell 13 : w1.cell? ⟨w.heap.size, 13, none⟩ = some (.int .i64 r.range.first))
 have z14 := On.cell (B0.cell 14 : w1.cell? ⟨w.heap.size, 14, none⟩ = some (.int .i64 r.range.last))
 have z15 := On.cell (B0.cell 15 : w1.cell? ⟨w.heap.size, 15, none⟩ = some (.int .i64 r.range.owner))
 have z16 := On.cell (B0.cell 16 : w1.cell? ⟨w.heap.size, 16, none⟩ = some (.int .i64 r.range.epoch))
 have HSP := jh (show freezeS s r = (if r.range ∉ s.ring ∨ r.range.owner ≠ s.self then (s, 8) else if 0 ≤ icedS s r.range.first ∨ lockedS s r.range = true then (s, 11) else if r.to < 1 ∨ s.nodes < r.to ∨ r.to = s.self then (s, 1) else ({ s with frozen := s.frozen ++ [r] }, 0)) from rfl)
 have CC := containsR_any Ar cr s.ring r.range P w1.drew (hrow.ext hb1.drew) HH.out.2.2.1.ring
 have H1 := jh (ja hb1 (ja B0 hs1))
 have HV := jh (ja hB hI)
 have hlo := jb w1.heap.size w1
 clear hB hI hv hvl hrow hb1 B0 hs1 hc1 hc2
 refine wp_region_mix (.seg [0, 1, 2, 3, 4, 5] 6 (.leaf [7, 8, 9, 10, 11, 12, 13, 14, 15, 16, 17, 18])) (fun w' => ∃ d : Wd (On w1), w' = d.w) (by kernel_rfl) (by kernel_rfl) (fun _ _ d _ _ h => by cases d <;> exact h) (ClsW.mk hlo.drew) ?_
 unfold wpMix; simp only [pick, j1, j2, j3, j4]
 (repeat (show wpQuiet _ _ _ _ (_ :: _) _; go_big_quiet_step (fail))); refine qn ?_
 go_wp2_with fail
 refine CC.mono ?_
 clear CC
 rintro e w2 ⟨rfl, hb2'⟩
 have hb2 : Below w1.heap.size w1 w2 := hlo.drew.tr hb2'
 have HB2 := jh (H1.out.1.tr hb2)
 have HB2' := jh hb2
 clear hb2'
 go_wp2_with fail
 by_cases hin : r.range ∈ s.ring
 ·rw [decide_eq_true hin]
  by_cases ho : r.range.owner = s.self
  ·have HE := jh (HSP.out.trans (if_neg (by simp [hin, ho])))
   have hoe : (r.range.owner != s.self) = false := by simp [ho]
   clear hin ho
   (refine segw (D := On w1) (hb2) ?_; unfold wpMix; simp only [pick, j1, j2, j3, j4]; (repeat (show wpQuiet _ _ _ _ (_ :: _) _; go_big_quiet_step (fail))); refine qn ?_)
   clear y4 y0 z13 z14 z15 z16 hb2 hlo hoe
   have B2 := H1.out.2.1.ext HB2'.out
   have z13 : w2.cell? ⟨w.heap.size, 13, none⟩ = some (.int .i64 r.range.first) := B2.cell 13
   have CI := iced_any g s r.range.first P w2 (by obtain ⟨v', a1, a2⟩ := HH.out.1; exact ⟨v', a1.ext HB2.out, a2.same (js HB2.out)⟩) HH.out.2.2.1.frozen
   unfold ptrV at CI
   clear B2
   go_wp2_with fail
   refine CI.mono ?_
   clear CI z13
   rintro e w3 ⟨rfl, hb3'⟩
   have HB3 := jh (HB2.out.tr hb3')
   have HB3' := jh (HB2'.out.tr hb3')
   clear hb3'
   by_cases hi : 0 ≤ icedS s r.range.first
   ·have HE2 := jh (HE.out.trans (if_pos (.inl hi)))
    generalize icedS s r.range.first = ic at *
    go_wp2_with fail
    go_ret
    unfold StOut
    rw [HE2.out]
    obtain ⟨v', a1, a2⟩ := HH.out.1
    exact ⟨rfl, ⟨v', a1.ext HB3.out, (a2.same (js HB3.out)).mono fun k hk => .inl hk⟩, jo HB3.out⟩
   ·have CL := locked_any g s r.range P w3 (by obtain ⟨v', a1, a2⟩ := HH.out.1; exact ⟨v', a1.ext HB3.out, a2.same (js HB3.out)⟩) HH.out.2.2.1.self (fun x hx => by have := (HH.out.2.2.1.held x hx).few; omega)
    unfold ptrV at CL
    have B3 := H1.out.2.1.ext HB3'.out
    have z13 : w3.cell? ⟨w.heap.size, 13, none⟩ = some (.int .i64 r.range.first) := B3.cell 13
    have z14 : w3.cell? ⟨w.heap.size, 14, none⟩ = some (.int .i64 r.range.last) := B3.cell 14
    have z15 : w3.cell? ⟨w.heap.size, 15, none⟩ = some (.int .i64 r.range.owner) := B3.cell 15
    have z16 : w3.cell? ⟨w.heap.size, 16, none⟩ = some (.int .i64 r.range.epoch) := B3.cell 16
    have HIC := jh hi
    clear B3
    generalize icedS s r.range.first = ic at *
    go_wp2_with fail
    refine CL.mono ?_
    clear CL z13 z14 z15 z16
    rintro e w4 ⟨rfl, hb4'⟩
    have HB4 := jh (HB3.out.tr hb4')
    have HB4' := jh (HB3'.out.tr hb4')
    clear hb4'
    cases hlk : lockedS s r.range
    rotate_left
    ·have HE2 := jh (HE.out.trans (if_pos (.inr hlk)))
     clear hlk
     go_wp2_with fail
     go_ret
     unfold StOut
     rw [HE2.out]
     obtain ⟨v', a1, a2⟩ := HH.out.1
     exact ⟨rfl, ⟨v', a1.ext HB4.out, (a2.same (js HB4.out)).mono fun k hk => .inl hk⟩, jo HB4.out⟩
    ·have HE1 := jh (HE.out.trans (if_neg (by rw [hlk]; simp; have := HIC.out; omega)))
     clear hlk
     go_upto_region 5 with fail
     have B4 := H1.out.2.1.ext HB4'.out
     have z2 : w4.cell? ⟨w.heap.size, 2, none⟩ = some (.int .i64 r.to) := B4.cell 2
     have y0 : w4.cell? ⟨g, 0, none⟩ = some (.int .i64 s.self) := (HV.out.1.ext HB4.out).cell 0
     have y1 : w4.cell? ⟨g, 1, none⟩ = some (.int .i64 s.nodes) := (HV.out.1.ext HB4.out).cell 1
     clear B4
     have hcase : r.to < 1 ∨ (¬ r.to < 1 ∧ s.nodes < r.to) ∨ (¬ r.to < 1 ∧ ¬ s.nodes < r.to ∧ r.to = s.self) ∨ (¬ r.to < 1 ∧ ¬ s.nodes < r.to ∧ r.to ≠ s.self) := by omega
     rcases hcase with h1 | ⟨h1, h2⟩ | ⟨h1, h2, h3⟩ | ⟨h1, h2, h3⟩
     ·have HE2 := jh (HE1.out.trans (if_pos (.inl h1)))
      go_quiet (fail)
      go_wp2_with fail
      go_ret
      unfold StOut
      rw [HE2.out]
      obtain ⟨v', a1, a2⟩ := HH.out.1
      exact ⟨rfl, ⟨v', a1.ext (HB4.out.drewN _), (a2.same (js (HB4.out.drewN _))).mono fun k hk => .inl hk⟩, jo (HB4.out.drewN _)⟩
     ·have HE2 := jh (HE1.out.trans (if_pos (.inr (.inl h2))))
      have g1 : decide (r.to < 1) = false := jd h1
      clear h1
      go_quiet (fail)
      go_wp2_with fail
      go_ret
      unfold StOut
      rw [HE2.out]
      obtain ⟨v', a1, a2⟩ := HH.out.1
      exact ⟨rfl, ⟨v', a1.ext (HB4.out.drewN _), (a2.same (js (HB4.out.drewN _))).mono fun k hk => .inl hk⟩, jo (HB4.out.drewN _)⟩
     ·have HE2 := jh (HE1.out.trans (if_pos (.inr (.inr h3))))
      have g1 : decide (r.to < 1) = false := jd h1
      have g2 : decide (s.nodes < r.to) = false := jd h2
      have g3 : (r.to == s.self) = true := beq_iff_eq.2 h3
      clear h1 h2 h3
      go_quiet (fail)
      go_wp2_with fail
      go_ret
      unfold StOut
      rw [HE2.out]
      obtain ⟨v', a1, a2⟩ := HH.out.1
      exact ⟨rfl, ⟨v', a1.ext (HB4.out.drewN _), (a2.same (js (HB4.out.drewN _))).mono fun k hk => .inl hk⟩, jo (HB4.out.drewN _)⟩
     ·have HE2 := jh (HE1.out.trans (if_neg (by simp; omega)))
      have g1 : decide (r.to < 1) = false := jd h1
      have g2 : decide (s.nodes < r.to) = false := jd h2
      have g3 : (r.to == s.self) = false := jn h3
      clear h1 h2 h3
      go_quiet (fail)
      clear z2 y0 y1
      go_upto_region 7 with fail
      have hb5 : Below w4.heap.size w4 (w4.drewN nq) := (jb _ _).drewN _
      generalize hw5 : w4.drewN nq = w5 at *
      have HB5 := jh (ja (HB4.out.tr hb5) (HB4'.out.tr hb5))
      clear hw5 hb5
      obtain ⟨Af, cf, hvf, hcf1, hcf2, hrowf⟩ := HV.out.2.frozen
      have hvl : v.frozen = .slice Af s.frozen.length cf := by injection hvf
      have y9 : w5.cell? ⟨g, 9, none⟩ = some v.frozen := (HV.out.1.ext HB5.out.1).cell 9
      rw [hvl] at y9
      have u9 := On.cell y9
      have B5 := H1.out.2.1.ext HB5.out.2
      unfold Rec.cells at B5
      have HBK := jh (fun (W : World) (hW : ∃ d : Wd (On w5), W = d.w) => (by obtain ⟨d, rfl⟩ := hW; exact B5.ext d.ok : Blk W w.heap.size 46 _))
      have CCL := fun W => clipRec_any Af s.frozen.length cf W hcf1 hcf2 (fun h => by
       rcases Nat.eq_zero_or_pos s.frozen.length with h0 | h0
       ·exact h0
       ·obtain ⟨_, _, h', _⟩ := hrowf h0; rw [h] at h'; cases h')
      have HROW := jh (ja (hrowf.ext HB5.out.1) hvl)
      have hfl := HH.out.2.2.1.frozen
      have hlo := jb w5.heap.size w5
      obtain ⟨i0, e1, e2, e3, e4⟩ := info_parts rec_info
      have hrr := (rec_rep.2 ⟨nA, nc, pA, pc, sA, sc, rfl, rec_empty (w' := w5) HH.out.2.2.2.1 HH.out.2.2.2.2⟩ : RecR.rep w5 (fun _ => False) (r.cells nA nc pA pc sA sc) r)
      unfold Rec.cells at hrr
      have hb6 := ((jb w5.heap.size w5).al (.cells (r.cells nA nc pA pc sA sc).toArray 46)).drew
      unfold Rec.cells at hb6
      have hrowR := (Rep.Row.new1 (t := 46) hrr).ext (jb _ _).drew
      have hrowF := HROW.out.1.ext hb6
      have hz6 := hb6.size
      clear y9 B5 hvf hcf1 hcf2 hrowf hvl hi
      refine wp_region_mix (.fork [0, 1, 2, 3, 4, 6] 5 (.seg [] 7 (.seg [] 8 (.seg [] 9 (.last [10] 11)))) 7 (.seg [] 5 (.seg [] 8 (.seg [] 9 (.last [10] 11))))) (fun w' => ∃ d : Wd (On w5), w' = d.w) (by kernel_rfl) (by kernel_rfl) (fun _ _ d _ _ h => by cases d <;> exact h) (ClsW.mk hlo.drew) ?_
      unfold wpMix; simp only [pick, j1, j2, j3, j4]
      (repeat (show wpQuiet _ _ _ _ (_ :: _) _; first | (refine wpQuiet_load_blk rfl rfl rfl HBK.out Tryz.underlying46 rfl (by kernel_rfl) ?_; go_simp) | go_big_quiet_step (fail))); refine qn ?_
      constructor
      ·go_wp2_with fail
       refine (CCL _).mono ?_
       rintro e w' ⟨rfl, rfl⟩
       go_wp2_with fail
       (refine segw (D := On w5) (hlo.drew) ?_; unfold wpMix; simp only [pick, j1, j2, j3, j4]; (repeat (show wpQuiet _ _ _ _ (_ :: _) _; go_big_quiet_step (fail))); refine qn ?_)
       go_wp2_with fail
       (refine segw (D := On w5) (hb6) ?_; unfold wpMix; simp only [pick, j1, j2, j3, j4]; (repeat (show wpQuiet _ _ _ _ (_ :: _) _; go_big_quiet_step (fail))); refine qn ?_)
       refine wpList_append_full (R := RecR) _ rfl (.tmp 64) (.tmp 66) _ rfl 46 i0 _ 200 Tryz.underlying22 e1 e2 e3 e4 rfl Af s.frozen _ _ rfl hrowF _ 1 [r] rfl hrowR (by unfold maxLen; simp; omega) (by simp; omega) ?_
       intro v8 w8 hl8 hb8'
       obtain ⟨A8, c8, hv8, hl81, hl82, hl83⟩ := hl8
       obtain rfl : v8 = .slice A8 (s.frozen ++ [r]).length c8 := by injection hv8
       have hb8 : Below w5.heap.size w5 w8 := hb6.tr hb8'
       (refine segw (D := On w5) (hb8) ?_; unfold wpMix; simp only [pick, j1, j2, j3, j4]; (repeat (show wpQuiet _ _ _ _ (_ :: _) _; go_big_quiet_step (fail))); refine qn ?_)
       go_wp2_with fail
       (refine segw (D := On w5) (hb8) ?_; unfold wpMix; simp only [pick, j1, j2, j3, j4]; (repeat (show wpQuiet _ _ _ _ (_ :: _) _; go_big_quiet_step (fail))); refine qn ?_)
       clear u9 hlo hrowF hrowR hrr
       have hw8 := HB5.out.1.tr hb8
       have b9 : w8.cell? ⟨g, 9, none⟩ = some v.frozen := (HV.out.1.ext hw8).cell 9
       have b9f : w8.frozen? ⟨g, 9, none⟩ = false := (HV.out.1.ext hw8).frozen 9
       have B9 : Blk (w8.setCell ⟨g, 9, none⟩ (.slice A8 (s.frozen ++ [r]).length c8)) g 176 (St.cells { s with frozen := s.frozen ++ [r] } { v with frozen := .slice A8 (s.frozen ++ [r]).length c8 }) := (HV.out.1.ext hw8).set_ 9 _
       have O9 : Only (fun k => k = g) w8 (w8.setCell ⟨g, 9, none⟩ (.slice A8 (s.frozen ++ [r]).length c8)) := Only.set_ (F := fun k => k = g) rfl _
       rw [List.length_append] at B9 O9
       have H9 := jh (ja B9 (ja O9 (ja hw8 (ja hl81 (ja hl82 (ja hl83 hz6))))))
       clear B9 O9 hw8 hb8 hb8' hl81 hl82 hl83 hb6
       go_wp2_with fail
       dsimp only [wpList, SegQ]
       generalize hw9 : w8.setCell ⟨g, 9, none⟩ (.slice A8 (s.frozen.length + [r].length) c8) = w9 at *
       clear hw9 b9 b9f
       go_wp2_with fail
       go_ret
       unfold StOut
       rw [HE2.out]
       obtain ⟨B9, O9, hw8, hl81, hl82, hl83, hz6⟩ := H9.out
       have hO : Only (· = g) w w9 := (jo hw8).tr O9
       have hI9 := (HV.out.2.same (Same.of_only hO fun k hk e => HH.out.2.1 (e ▸ hk))).mono (Q := fun k => P k ∨ w.heap.size ≤ k) fun k hk => .inl hk
       have hz5 := HB5.out.1.size
       refine ⟨rfl, ⟨_, B9, { hI9 with frozen := ⟨A8, c8, by rw [List.length_append], hl81, hl82, ?_⟩ }⟩, hO⟩
       refine (hl83.mono (Q := fun k => (P k ∨ w.heap.size ≤ k) ∧ k ≠ g) fun k hk _ => ?_).same (Same.of_only O9 fun k hk e => hk.2 e) O9.size |>.mono fun k hk _ => hk.1
       rcases hk with hk | ⟨hk, _⟩ | hk
       ·exact ⟨.inl hk, fun e => HH.out.2.1 (e ▸ hk)⟩
       ·rcases hk with hk | hk
        ·exact hk.elim
        ·exact ⟨.inr (by omega), by omega⟩
       ·exact ⟨.inr (by omega), by omega⟩
      ·go_wp2_with fail
       (refine segw (D := On w5) (hb6) ?_; unfold wpMix; simp only [pick, j1, j2, j3, j4]; (repeat (show wpQuiet _ _ _ _ (_ :: _) _; go_big_quiet_step (fail))); refine qn ?_)
       go_wp2_with fail
       refine (CCL _).mono ?_
       rintro e w' ⟨rfl, rfl⟩
       go_wp2_with fail
       (refine segw (D := On w5) (hb6) ?_; unfold wpMix; simp only [pick, j1, j2, j3, j4]; (repeat (show wpQuiet _ _ _ _ (_ :: _) _; go_big_quiet_step (fail))); refine qn ?_)
       refine wpList_append_full (R := RecR) _ rfl (.tmp 64) (.tmp 66) _ rfl 46 i0 _ 200 Tryz.underlying22 e1 e2 e3 e4 rfl Af s.frozen _ _ rfl hrowF _ 1 [r] rfl hrowR (by unfold maxLen; simp; omega) (by simp; omega) ?_
       intro v8 w8 hl8 hb8'
       obtain ⟨A8, c8, hv8, hl81, hl82, hl83⟩ := hl8
       obtain rfl : v8 = .slice A8 (s.frozen ++ [r]).length c8 := by injection hv8
       have hb8 : Below w5.heap.size w5 w8 := hb6.tr hb8'
       (refine segw (D := On w5) (hb8) ?_; unfold wpMix; simp only [pick, j1, j2, j3, j4]; (repeat (show wpQuiet _ _ _ _ (_ :: _) _; go_big_quiet_step (fail))); refine qn ?_)
       go_wp2_with fail
       (refine segw (D := On w5) (hb8) ?_; unfold wpMix; simp only [pick, j1, j2, j3, j4]; (repeat (show wpQuiet _ _ _ _ (_ :: _) _; go_big_quiet_step (fail))); refine qn ?_)
       clear u9 hlo hrowF hrowR hrr
       have hw8 := HB5.out.1.tr hb8
       have b9 : w8.cell? ⟨g, 9, none⟩ = some v.frozen := (HV.out.1.ext hw8).cell 9
       have b9f : w8.frozen? ⟨g, 9, none⟩ = false := (HV.out.1.ext hw8).frozen 9
       have B9 : Blk (w8.setCell ⟨g, 9, none⟩ (.slice A8 (s.frozen ++ [r]).length c8)) g 176 (St.cells { s with frozen := s.frozen ++ [r] } { v with frozen := .slice A8 (s.frozen ++ [r]).length c8 }) := (HV.out.1.ext hw8).set_ 9 _
       have O9 : Only (fun k => k = g) w8 (w8.setCell ⟨g, 9, none⟩ (.slice A8 (s.frozen ++ [r]).length c8)) := Only.set_ (F := fun k => k = g) rfl _
       rw [List.length_append] at B9 O9
       have H9 := jh (ja B9 (ja O9 (ja hw8 (ja hl81 (ja hl82 (ja hl83 hz6))))))
       clear B9 O9 hw8 hb8 hb8' hl81 hl82 hl83 hb6
       go_wp2_with fail
       dsimp only [wpList, SegQ]
       generalize hw9 : w8.setCell ⟨g, 9, none⟩ (.slice A8 (s.frozen.length + [r].length) c8) = w9 at *
       clear hw9 b9 b9f
       go_wp2_with fail
       go_ret
       unfold StOut
       rw [HE2.out]
       obtain ⟨B9, O9, hw8, hl81, hl82, hl83, hz6⟩ := H9.out
       have hO : Only (· = g) w w9 := (jo hw8).tr O9
       have hI9 := (HV.out.2.same (Same.of_only hO fun k hk e => HH.out.2.1 (e ▸ hk))).mono (Q := fun k => P k ∨ w.heap.size ≤ k) fun k hk => .inl hk
       have hz5 := HB5.out.1.size
       refine ⟨rfl, ⟨_, B9, { hI9 with frozen := ⟨A8, c8, by rw [List.length_append], hl81, hl82, ?_⟩ }⟩, hO⟩
       refine (hl83.mono (Q := fun k => (P k ∨ w.heap.size ≤ k) ∧ k ≠ g) fun k hk _ => ?_).same (Same.of_only O9 fun k hk e => hk.2 e) O9.size |>.mono fun k hk _ => hk.1
       rcases hk with hk | ⟨hk, _⟩ | hk
       ·exact ⟨.inl hk, fun e => HH.out.2.1 (e ▸ hk)⟩
       ·rcases hk with hk | hk
        ·exact hk.elim
        ·exact ⟨.inr (by omega), by omega⟩
       ·exact ⟨.inr (by omega), by omega⟩
  ·have HE := jh (HSP.out.trans (if_pos (.inr ho)))
   have hoe : (r.range.owner != s.self) = true := bne_iff_ne.2 ho
   clear hin ho
   (refine segw (D := On w1) (hb2) ?_; unfold wpMix; simp only [pick, j1, j2, j3, j4]; (repeat (show wpQuiet _ _ _ _ (_ :: _) _; go_big_quiet_step (fail))); refine qn ?_)
   clear y4 y0 z13 z14 z15 z16 hb2 hlo
   go_wp2_with fail
   go_ret
   unfold StOut
   rw [HE.out]
   obtain ⟨v', a1, a2⟩ := HH.out.1
   exact ⟨rfl, ⟨v', a1.ext HB2.out, (a2.same (js HB2.out)).mono fun k hk => .inl hk⟩, jo HB2.out⟩
 ·have HE := jh (HSP.out.trans (if_pos (.inl hin)))
  rw [jd hin]
  clear hin
  (refine segw (D := On w1) (hb2) ?_; unfold wpMix; simp only [pick, j1, j2, j3, j4]; (repeat (show wpQuiet _ _ _ _ (_ :: _) _; go_big_quiet_step (fail))); refine qn ?_)
  clear y4 y0 z13 z14 z15 z16 hb2 hlo
  go_wp2_with fail
  go_ret
  unfold StOut
  rw [HE.out]
  obtain ⟨v', a1, a2⟩ := HH.out.1
  exact ⟨rfl, ⟨v', a1.ext HB2.out, (a2.same (js HB2.out)).mono fun k hk => .inl hk⟩, jo HB2.out⟩
end Go.Proofs.YtcmjgghkmdbphaaGreatDoor
namespace Go.Proofs.YtcmjgghkmdbphaaGreatDoor
open Go.RowKit
theorem span_any (r : Range) (w : World) : Calls Tryz.prog 186 #[.agg #[.int .i64 r.first, .int .i64 r.last, .int .i64 r.owner, .int .i64 r.epoch]] w fun e w' => e = .returned (.bool (spanB r)) ∧ Below w.heap.size w w' := by
 go_enter Tryz.func186, Tryz.ntmps186
 go_wp2
 all_goals
  go_ret
  refine ⟨ret_bool ?_, by repeat (with_reducible first | assumption | exact jb _ _ | refine Below.al ?_ _ | refine Below.drew ?_ | apply Below.st1)⟩
  go_light
  unfold spanB
  rw [Bool.eq_iff_iff]
  simp at *
  omega
end Go.Proofs.YtcmjgghkmdbphaaGreatDoor
namespace Go.Proofs.YtcmjgghkmdbphaaGreatDoor
open Go.RowKit
def stopsN (s : St) (r x : Range) : Bool := decide (r.first ≤ r.last) && (decide (x.first ≤ r.last) && (decide (r.first ≤ x.last) && (decide (x.owner = s.self) || decide (r.epoch ≤ x.epoch))))
theorem newer_any (g : Nat) (s : St) (r : Range) (P : Nat → Prop) (w : World) (h : StAt w P g s) (hl : s.ring.length ≤ 1000000) :
 Calls Tryz.prog 185 #[ptrV g, .agg #[.int .i64 r.first, .int .i64 r.last, .int .i64 r.owner, .int .i64 r.epoch]] w fun e w' => e = .returned (.bool (newerS s r)) ∧ Below w.heap.size w w' := by
 obtain ⟨v, hB, hI⟩ := h
 obtain ⟨Ar, cr, hv, hc1, hc2, hrow⟩ := hI.ring
 have hvl : v.ring = .slice Ar s.ring.length cr := by injection hv
 have hb0 := (jb w.heap.size w).al (.cells #[.int .i64 r.first, .int .i64 r.last, .int .i64 r.owner, .int .i64 r.epoch] 27)
 have B0 := Blk.new w 27 [.int .i64 r.first, .int .i64 r.last, .int .i64 r.owner, .int .i64 r.epoch]
 have HR := jh (hrow.mono (Q := fun g => g < w.heap.size) fun g _ h => h)
 have HV := jh (ja hB hvl)
 have HN := jh (show newerS s r = (decide (r.owner = s.self) && s.ring.all fun x => !stopsN s r x) from rfl)
 clear hB hI hv hvl hrow hc1 hc2
 unfold ptrV
 go_enter Tryz.func185, Tryz.ntmps185
 go_upto_region 1 with fail
 generalize hw1 : (w.alloc (.cells #[.int .i64 r.first, .int .i64 r.last, .int .i64 r.owner, .int .i64 r.epoch] 27)) = w1 at *
 clear hw1
 have z2 : w1.cell? ⟨w.heap.size, 2, none⟩ = some (.int .i64 r.owner) := B0.cell 2
 have y0 : w1.cell? ⟨g, 0, none⟩ = some (.int .i64 s.self) := (HV.out.1.ext hb0).cell 0
 have HB := jh (ja hb0 B0)
 clear hb0 B0
 by_cases ho : r.owner = s.self
 ·have HO := jh (show newerS s r = s.ring.all fun x => !stopsN s r x from by rw [HN.out, decide_eq_true ho]; rfl)
  rw [ho] at z2
  clear ho
  go_quiet (fail)
  have hb1 : Below w1.heap.size w1 (w1.drewN nq) := (jb _ _).drewN _
  generalize hw2 : w1.drewN nq = w2 at *
  have HB2 := jh (ja (HB.out.1.tr hb1) (HB.out.2.ext hb1))
  clear hw2 hb1 z2 y0
  have y4 : w2.cell? ⟨g, 4, none⟩ = some v.ring := (HV.out.1.ext HB2.out.1).cell 4
  rw [HV.out.2] at y4
  go_wp2_with fail
  clear y4
  go_loopw [19] (fun i wr => ∃ k : Nat, k ≤ s.ring.length ∧ i = .int .i64 k ∧ (∀ (j : Nat) (y : Range), j < k → s.ring[j]? = some y → stopsN s r y = false) ∧ Below w2.heap.size w2 wr) (fun i _ => s.ring.length - (intOf i).toNat)
  case atStart => exact ⟨0, Nat.zero_le _, rfl, fun j y hj => absurd hj (by omega), jb _ _⟩
  case round =>
   obtain ⟨k, hk, rfl, hno, hbl⟩ := hrel
   have HNO := jh (ja hno hbl)
   clear hno
   by_cases hlt : k < s.ring.length
   ·have hlk := jg hlt
    obtain ⟨bb, o, cs, rfl, hP, hbw, hrep, hcs⟩ := (HR.out.ext (HB2.out.1.tr hbl)).at_ hlk
    generalize s.ring[k] = x at *
    obtain ⟨rfl, _⟩ := range_rep.1 hrep
    have HLK := jh hlk
    have c0 := hcs 0 _ rfl; have c1 := hcs 1 _ rfl; have c2 := hcs 2 _ rfl; have c3 := hcs 3 _ rfl; simp only [RangeR_size, Nat.add_zero] at c0 c1 c2 c3
    have hlt' : (k : Int) < s.ring.length := by omega
    have hbx := (jb wr.heap.size wr).al (.cells #[.int .i64 x.first, .int .i64 x.last, .int .i64 x.owner, .int .i64 x.epoch] 27)
    have BX := Blk.new wr 27 [.int .i64 x.first, .int .i64 x.last, .int .i64 x.owner, .int .i64 x.epoch]
    clear hlk hrep hcs
    go_upto_region 6 with fail
    generalize hw5 : (wr.alloc (.cells #[.int .i64 x.first, .int .i64 x.last, .int .i64 x.owner, .int .i64 x.epoch] 27)) = w5 at *
    have h25 := hbl.tr hbx
    have BR := HB2.out.2.ext h25
    have u0 : w5.cell? ⟨wr.heap.size, 0, none⟩ = some (.int .i64 x.first) := BX.cell 0
    have u1 : w5.cell? ⟨wr.heap.size, 1, none⟩ = some (.int .i64 x.last) := BX.cell 1
    have u2 : w5.cell? ⟨wr.heap.size, 2, none⟩ = some (.int .i64 x.owner) := BX.cell 2
    have u3 : w5.cell? ⟨wr.heap.size, 3, none⟩ = some (.int .i64 x.epoch) := BX.cell 3
    have z0 : w5.cell? ⟨w.heap.size, 0, none⟩ = some (.int .i64 r.first) := BR.cell 0
    have z1 : w5.cell? ⟨w.heap.size, 1, none⟩ = some (.int .i64 r.last) := BR.cell 1
    have z3 : w5.cell? ⟨w.heap.size, 3, none⟩ = some (.int .i64 r.epoch) := BR.cell 3
    have y0 : w5.cell? ⟨g, 0, none⟩ = some (.int .i64 s.self) := (HV.out.1.ext (HB2.out.1.tr h25)).cell 0
    have H5 := jh h25
    clear hw5 hbx BX BR h25 hbl c0 c1 c2 c3
    have hcase : (¬ r.first ≤ r.last) ∨ (r.first ≤ r.last ∧ ¬ x.first ≤ r.last) ∨ (r.first ≤ r.last ∧ x.first ≤ r.last ∧ ¬ r.first ≤ x.last) ∨ (r.first ≤ r.last ∧ x.first ≤ r.last ∧ r.first ≤ x.last ∧ x.owner ≠ s.self ∧ ¬ r.epoch ≤ x.epoch) ∨
     (r.first ≤ r.last ∧ x.first ≤ r.last ∧ r.first ≤ x.last ∧ x.owner = s.self) ∨ (r.first ≤ r.last ∧ x.first ≤ r.last ∧ r.first ≤ x.last ∧ x.owner ≠ s.self ∧ r.epoch ≤ x.epoch) := by omega
    rcases hcase with h1 | ⟨h1, h2⟩ | ⟨h1, h2, h3⟩ | ⟨h1, h2, h3, h4, h5⟩ | ⟨h1, h2, h3, h4⟩ | ⟨h1, h2, h3, h4, h5⟩
    ·have HST := jh (show stopsN s r x = false from by simp [stopsN, h1])
     (have g1 := jd h1)
     go_quiet (fail)
     go_wp2_with fail
     go_round
     case rel =>
      refine ⟨k + 1, by omega, by go_num, fun j z hj hz => ?_, H5.out.drewN _⟩
      by_cases hjk : j < k
      ·exact HNO.out.1 j z hjk hz
      ·have : j = k := by omega
       subst this
       rw [HLK.out] at hz
       injection hz with hz
       subst hz
       exact HST.out
     case measure => simp [intOf]; omega
    ·have HST := jh (show stopsN s r x = false from by simp [stopsN, h2])
     (have g2 := jd h2)
     go_quiet (fail)
     go_wp2_with fail
     go_round
     case rel =>
      refine ⟨k + 1, by omega, by go_num, fun j z hj hz => ?_, H5.out.drewN _⟩
      by_cases hjk : j < k
      ·exact HNO.out.1 j z hjk hz
      ·have : j = k := by omega
       subst this
       rw [HLK.out] at hz
       injection hz with hz
       subst hz
       exact HST.out
     case measure => simp [intOf]; omega
    ·have HST := jh (show stopsN s r x = false from by simp [stopsN, h3])
     (have g3 := jd h3)
     go_quiet (fail)
     go_wp2_with fail
     go_round
     case rel =>
      refine ⟨k + 1, by omega, by go_num, fun j z hj hz => ?_, H5.out.drewN _⟩
      by_cases hjk : j < k
      ·exact HNO.out.1 j z hjk hz
      ·have : j = k := by omega
       subst this
       rw [HLK.out] at hz
       injection hz with hz
       subst hz
       exact HST.out
     case measure => simp [intOf]; omega
    ·have HST := jh (show stopsN s r x = false from by simp [stopsN, h4, h5])
     (have g4 : (x.owner == s.self) = false := jn h4) ; (have g5 := jd h5)
     go_quiet (fail)
     go_wp2_with fail
     go_round
     case rel =>
      refine ⟨k + 1, by omega, by go_num, fun j z hj hz => ?_, H5.out.drewN _⟩
      by_cases hjk : j < k
      ·exact HNO.out.1 j z hjk hz
      ·have : j = k := by omega
       subst this
       rw [HLK.out] at hz
       injection hz with hz
       subst hz
       exact HST.out
     case measure => simp [intOf]; omega
    ·have HST := jh (show stopsN s r x = true from by simp [stopsN, h1, h2, h3, h4])
     (have g4 : (x.owner == s.self) = true := beq_iff_eq.2 h4)
     go_quiet (fail)
     go_wp2_with fail
     go_ret
     refine ⟨ret_bool ?_, HB2.out.1.tr (H5.out.drewN _)⟩
     rw [HO.out, eq_comm, List.all_eq_false]
     exact ⟨x, List.mem_of_getElem? HLK.out, by rw [HST.out]; simp⟩
    ·have HST := jh (show stopsN s r x = true from by simp [stopsN, h1, h2, h3, h5])
     (have g4 : (x.owner == s.self) = false := jn h4)
     go_quiet (fail)
     go_wp2_with fail
     go_ret
     refine ⟨ret_bool ?_, HB2.out.1.tr (H5.out.drewN _)⟩
     rw [HO.out, eq_comm, List.all_eq_false]
     exact ⟨x, List.mem_of_getElem? HLK.out, by rw [HST.out]; simp⟩
   ·have hkn : k = s.ring.length := by omega
    clear hbl
    go_wp2_with fail
    go_ret
    refine ⟨ret_bool ?_, HB2.out.1.tr HNO.out.2⟩
    rw [HO.out, eq_comm, List.all_eq_true]
    intro y hy
    obtain ⟨j, hj, rfl⟩ := List.getElem_of_mem hy
    rw [HNO.out.1 j _ (by omega) (jg hj)]; rfl
 ·have hne : (r.owner != s.self) = true := bne_iff_ne.2 ho
  have HO := jh (show newerS s r = false from by rw [HN.out, jd ho]; rfl)
  clear ho
  go_quiet (fail)
  go_wp2_with fail
  go_ret
  exact ⟨ret_bool HO.out.symm, HB.out.1.drewN _⟩
end Go.Proofs.YtcmjgghkmdbphaaGreatDoor
namespace Go.Proofs.YtcmjgghkmdbphaaGreatDoor
open Go.RowKit
structure ArD (xb rb : Nat) (x r : Range) (W : World) : Prop where
 x : Blk W xb 27 [.int .i64 x.first, .int .i64 x.last, .int .i64 x.owner, .int .i64 x.epoch]
 r : Blk W rb 27 [.int .i64 r.first, .int .i64 r.last, .int .i64 r.owner, .int .i64 r.epoch]
section
variable {xb rb : Nat} {x r : Range}
theorem ArD.x0 (d : Wd (ArD xb rb x r)) : d.w.cell? ⟨xb, 0, none⟩ = some (.int .i64 x.first) := d.ok.x.cell 0
theorem ArD.x1 (d : Wd (ArD xb rb x r)) : d.w.cell? ⟨xb, 1, none⟩ = some (.int .i64 x.last) := d.ok.x.cell 1
theorem ArD.r0 (d : Wd (ArD xb rb x r)) : d.w.cell? ⟨rb, 0, none⟩ = some (.int .i64 r.first) := d.ok.r.cell 0
theorem ArD.r1 (d : Wd (ArD xb rb x r)) : d.w.cell? ⟨rb, 1, none⟩ = some (.int .i64 r.last) := d.ok.r.cell 1
end
structure ArS (ga gb xb rb base : Nat) (cl ch : List Value) (x r : Range) (w1 : World) (v : Value) (acc : List Range) (W : World) : Prop where
 own : RangeR.Own W base 27 (fun _ => True) v acc
 low : Blk W ga 27 cl
 high : Blk W gb 27 ch
 x : Blk W xb 27 [.int .i64 x.first, .int .i64 x.last, .int .i64 x.owner, .int .i64 x.epoch]
 r : Blk W rb 27 [.int .i64 r.first, .int .i64 r.last, .int .i64 r.owner, .int .i64 r.epoch]
 off : ∀ q, v.ownBlock = some q → q ≠ ga ∧ q ≠ gb ∧ q ≠ xb ∧ q ≠ rb
 below : Below base w1 W
theorem ArS.app {ga gb xb rb base : Nat} {cl ch : List Value} {x r d : Range} {w1 W W' : World} {v v' : Value} {acc : List Range} (h : ArS ga gb xb rb base cl ch x r w1 v acc W)
 (ho : RangeR.Own W' base 27 (fun _ => True) v' (acc ++ [d])) (hg : W.grownBy W' v.ownBlock) (hat : v'.ownBlock = v.ownBlock ∨ v'.ownBlock = some (W.heap.size + 1)) (hb : Below base W W') : ArS ga gb xb rb base cl ch x r w1 v' (acc ++ [d]) W' := by
 have h1 := h.low.lt
 have h2 := h.high.lt
 have h3 := h.x.lt
 have h4 := h.r.lt
 have hG := Only.grown hg (F := fun g => v.ownBlock = some g) (fun g hg => hg)
 refine ⟨ho, h.low.only hG (fun e => (h.off _ e).1 rfl), h.high.only hG (fun e => (h.off _ e).2.1 rfl), h.x.only hG (fun e => (h.off _ e).2.2.1 rfl), h.r.only hG (fun e => (h.off _ e).2.2.2 rfl), fun q hq => ?_, h.below.trans hb⟩
 rcases hat with e | e
 ·exact h.off q (e ▸ hq)
 ·have e2 : q = W.heap.size + 1 := by rw [e] at hq; exact (Option.some.inj hq).symm
  omega
theorem around_snoc {l : List Range} {r x : Range} {lo hi : Int} (h1 : lo = min x.last (r.first - 1)) (h2 : hi = max x.first (r.last + 1)) :
 aroundR (l ++ [x]) r = aroundR l r ++ (if x.first ≤ lo then [(⟨x.first, lo, x.owner, x.epoch⟩ : Range)] else []) ++ (if x.first ≤ r.first ∧ r.first ≤ x.last then [r] else []) ++ (if hi ≤ x.last then [(⟨hi, x.last, x.owner, x.epoch⟩ : Range)] else []) := by
 subst h1 h2
 unfold aroundR aroundX
 rw [List.flatMap_append, List.flatMap_cons, List.flatMap_nil, List.append_nil, List.append_assoc, List.append_assoc]
theorem aroundX_len (r x : Range) : (aroundX r x).length ≤ 3 := by
 unfold aroundX
 simp only [List.length_append]
 (repeat' split) <;> simp
theorem around_len (l : List Range) (r : Range) : (aroundR l r).length ≤ 3 * l.length := by
 unfold aroundR
 induction l with
 | nil => simp
 | cons x l ih =>
   rw [List.flatMap_cons, List.length_append, List.length_cons]
   have := aroundX_len r x
   omega
theorem around_any (A : Option Addr) (c : Nat) (l : List Range) (r : Range) (P : Nat → Prop) (w : World) (hr : RangeR.Row w P A l) (hl : l.length ≤ 1000) (h0 : 0 ≤ r.first) (h1 : r.first ≤ r.last) (h2 : r.last ≤ 4294967295) (hf : r.fit) :
 Calls Tryz.prog 190 #[.slice A l.length c, .agg #[.int .i64 r.first, .int .i64 r.last, .int .i64 r.owner, .int .i64 r.epoch]] w fun e w' => GotOwn RangeR w.heap.size 27 (fun _ => False) (aroundR l r) e w' ∧ Below w.heap.size w w' := by
 have HR := jh (hr.mono (Q := fun g => g < w.heap.size) fun g _ h => h)
 have hb0 := (jb w.heap.size w).al (.cells #[.int .i64 r.first, .int .i64 r.last, .int .i64 r.owner, .int .i64 r.epoch] 27)
 have B0 := Blk.new w 27 [.int .i64 r.first, .int .i64 r.last, .int .i64 r.owner, .int .i64 r.epoch]
 have HF := jh hf
 clear hr hf
 go_enter Tryz.func190, Tryz.ntmps190
 go_upto_region 1 with fail
 have hs1 : (w.alloc (.cells #[.int .i64 r.first, .int .i64 r.last, .int .i64 r.owner, .int .i64 r.epoch] 27)).heap.size = w.heap.size + 1 := by simp
 generalize hw1 : (w.alloc (.cells #[.int .i64 r.first, .int .i64 r.last, .int .i64 r.owner, .int .i64 r.epoch] 27)) = w1 at *
 clear hw1
 have HB := jh (ja hb0 (ja B0 hs1))
 clear hb0 B0 hs1
 go_wp2_with fail
 go_loopw [4, 11] (fun ov i wr => ∃ k : Nat, k ≤ l.length ∧ i = .int .i64 k ∧ RangeR.Own wr w1.heap.size 27 (fun _ => True) ov (aroundR (l.take k) r) ∧ Below w1.heap.size w1 wr) (fun _ i _ => l.length - (intOf i).toNat)
 case atStart => exact ⟨0, Nat.zero_le _, rfl, by rw [List.take_zero]; exact Rep.Own.nil_, jb _ _⟩
 case round =>
  obtain ⟨k, hk, rfl, hown, hbl⟩ := hrel
  by_cases hlt : k < l.length
  ·have hlk := jg hlt
   have hts := take_snoc l k hlt
   obtain ⟨bb, o, cs, rfl, hP, hbw, hrep, hcs⟩ := (HR.out.ext (HB.out.1.tr hbl)).at_ hlk
   generalize l[k] = x at *
   obtain ⟨rfl, hfx⟩ := range_rep.1 hrep
   have c0 := hcs 0 _ rfl; have c1 := hcs 1 _ rfl; have c2 := hcs 2 _ rfl; have c3 := hcs 3 _ rfl; simp only [RangeR_size, Nat.add_zero] at c0 c1 c2 c3
   have HTS := jh (ja hts hfx)
   have hlt' : (k : Int) < l.length := by omega
   have hbx := (jb wr.heap.size wr).al (.cells #[.int .i64 x.first, .int .i64 x.last, .int .i64 x.owner, .int .i64 x.epoch] 27)
   have BX := Blk.new wr 27 [.int .i64 x.first, .int .i64 x.last, .int .i64 x.owner, .int .i64 x.epoch]
   clear hlk hts hrep hcs hfx
   go_upto_region 4 with fail
   have hsx : (wr.alloc (.cells #[.int .i64 x.first, .int .i64 x.last, .int .i64 x.owner, .int .i64 x.epoch] 27)).heap.size = wr.heap.size + 1 := by simp
   generalize hw2 : (wr.alloc (.cells #[.int .i64 x.first, .int .i64 x.last, .int .i64 x.owner, .int .i64 x.epoch] 27)) = w2 at *
   have HO := jh (ja (hown.ext hbx) (ja hown (ja (hbl.tr hbx) (ja BX (ja (HB.out.2.1.ext (hbl.tr hbx)) hsx)))))
   have y0 := On.cell (BX.cell 0 : w2.cell? ⟨wr.heap.size, 0, none⟩ = some (.int .i64 x.first))
   have y1 := On.cell (BX.cell 1 : w2.cell? ⟨wr.heap.size, 1, none⟩ = some (.int .i64 x.last))
   have y2 := On.cell (BX.cell 2 : w2.cell? ⟨wr.heap.size, 2, none⟩ = some (.int .i64 x.owner))
   have y3 := On.cell (BX.cell 3 : w2.cell? ⟨wr.heap.size, 3, none⟩ = some (.int .i64 x.epoch))
   obtain ⟨Ao, co, rfl, _⟩ := hown.form
   have hlo := jb w2.heap.size w2
   have HZR := jh (show w1.heap.size ≤ wr.heap.size from hbl.size)
   clear hw2 hbx BX hsx hown hbl c0 c1 c2 c3
   go_cut [7, 8] (fun av bv wx => ∃ ga gb : Nat, av = .pointer (some ⟨ga, 0, none⟩) ∧ bv = .pointer (some ⟨gb, 0, none⟩) ∧ Blk wx ga 27 x.cells ∧ Blk wx gb 27 x.cells ∧ ga ≠ gb ∧ w2.heap.size ≤ ga ∧ w2.heap.size ≤ gb ∧ Below w2.heap.size w2 wx)
   case first =>
    refine wp_region_mix (.fork [0, 1] 2 (.seg [] 3 (.seg [] 4 (.seg [] 5 (.leaf [])))) 3 (.seg [] 2 (.seg [] 4 (.seg [] 5 (.leaf []))))) (fun w' => ∃ d : Wd (On w2), w' = d.w) (by kernel_rfl) (by kernel_rfl) (fun _ _ d _ _ h => by cases d <;> exact h) (ClsW.mk hlo.drew) ?_
    unfold wpMix; simp only [pick, j1, j2, j3, j4]
    (repeat (show wpQuiet _ _ _ _ (_ :: _) _; go_big_quiet_step (fail))); refine qn ?_
    constructor
    ·go_wp2_with fail
     have hba := (jb w2.heap.size w2).al (.cells #[.int .i64 0, .int .i64 0, .int .i64 0, .int .i64 0] 27)
     (refine segw (D := On w2) (hba.drew) ?_; unfold wpMix; simp only [pick, j1, j2, j3, j4]; (repeat (show wpQuiet _ _ _ _ (_ :: _) _; go_big_quiet_step (fail))); refine qn ?_)
     go_wp2_with fail
     have hbb := (hba.al (.cells #[.int .i64 0, .int .i64 0, .int .i64 0, .int .i64 0] 27)).drew
     (refine segw (D := On w2) (hbb) ?_; unfold wpMix; simp only [pick, j1, j2, j3, j4]; (repeat (show wpQuiet _ _ _ _ (_ :: _) _; go_big_quiet_step (fail))); refine qn ?_)
     refine wpList_store_blk (cs := x.cells) rfl rfl rfl rfl rfl (((Blk.new w2 27 [.int .i64 0, .int .i64 0, .int .i64 0, .int .i64 0]).alloc (.cells #[.int .i64 0, .int .i64 0, .int .i64 0, .int .i64 0] 27)).ext (jb _ _).drew) (by kernel_rfl) rfl (by simp [Range.cells, Value.oneCell']) ?_
     intro w4 hB4 hO4 hz4
     have hN4 := ((Blk.new1 w2 (.cells #[.int .i64 0, .int .i64 0, .int .i64 0, .int .i64 0] 27) 27 [.int .i64 0, .int .i64 0, .int .i64 0, .int .i64 0]).ext (jb _ _).drew).only hO4 (by simp)
     have hb4 := hbb.trans (hO4.low (fun k e => by have e' : k = w2.heap.size := e; omega) hbb.size)
     (refine segw (D := On w2) (hb4) ?_; unfold wpMix; simp only [pick, j1, j2, j3, j4]; (repeat (show wpQuiet _ _ _ _ (_ :: _) _; go_big_quiet_step (fail))); refine qn ?_)
     refine wpList_store_blk (cs := x.cells) rfl rfl rfl rfl rfl hN4 (by kernel_rfl) rfl (by simp [Range.cells, Value.oneCell']) ?_
     intro w5 hB5 hO5 hz5
     have hA5 := hB4.only hO5 (by simp)
     have hb5 := hb4.trans (hO5.low (fun k e => by have e' : k = _ := e; rw [e']; simp) hb4.size)
     (refine segw (D := On w2) (hb5) ?_; unfold wpMix; simp only [pick, List.filterMap_nil]; (repeat (show wpQuiet _ _ _ _ (_ :: _) _; go_big_quiet_step (fail))); refine qn ?_)
     have HZ := jh (ja hA5 (ja hB5 hb5))
     go_wp2_with fail
     go_meet
     exact ⟨_, _, rfl, rfl, HZ.out.1, HZ.out.2.1, by simp, Nat.le_refl _, by simp, HZ.out.2.2⟩
    ·go_wp2_with fail
     have hba := (jb w2.heap.size w2).al (.cells #[.int .i64 0, .int .i64 0, .int .i64 0, .int .i64 0] 27)
     (refine segw (D := On w2) (hba.drew) ?_; unfold wpMix; simp only [pick, j1, j2, j3, j4]; (repeat (show wpQuiet _ _ _ _ (_ :: _) _; go_big_quiet_step (fail))); refine qn ?_)
     go_wp2_with fail
     have hbb := (hba.al (.cells #[.int .i64 0, .int .i64 0, .int .i64 0, .int .i64 0] 27)).drew
     (refine segw (D := On w2) (hbb) ?_; unfold wpMix; simp only [pick, j1, j2, j3, j4]; (repeat (show wpQuiet _ _ _ _ (_ :: _) _; go_big_quiet_step (fail))); refine qn ?_)
     refine wpList_store_blk (cs := x.cells) rfl rfl rfl rfl rfl ((Blk.new1 w2 (.cells #[.int .i64 0, .int .i64 0, .int .i64 0, .int .i64 0] 27) 27 [.int .i64 0, .int .i64 0, .int .i64 0, .int .i64 0]).ext (jb _ _).drew) (by kernel_rfl) rfl (by simp [Range.cells, Value.oneCell']) ?_
     intro w4 hB4 hO4 hz4
     have hN4 := (((Blk.new w2 27 [.int .i64 0, .int .i64 0, .int .i64 0, .int .i64 0]).alloc (.cells #[.int .i64 0, .int .i64 0, .int .i64 0, .int .i64 0] 27)).ext (jb _ _).drew).only hO4 (by simp)
     have hb4 := hbb.trans (hO4.low (fun k e => by have e' : k = _ := e; rw [e']; simp) hbb.size)
     (refine segw (D := On w2) (hb4) ?_; unfold wpMix; simp only [pick, j1, j2, j3, j4]; (repeat (show wpQuiet _ _ _ _ (_ :: _) _; go_big_quiet_step (fail))); refine qn ?_)
     refine wpList_store_blk (cs := x.cells) rfl rfl rfl rfl rfl hN4 (by kernel_rfl) rfl (by simp [Range.cells, Value.oneCell']) ?_
     intro w5 hB5 hO5 hz5
     have hA5 := hB4.only hO5 (by simp)
     have hb5 := hb4.trans (hO5.low (fun k e => by have e' : k = w2.heap.size := e; omega) hb4.size)
     (refine segw (D := On w2) (hb5) ?_; unfold wpMix; simp only [pick, List.filterMap_nil]; (repeat (show wpQuiet _ _ _ _ (_ :: _) _; go_big_quiet_step (fail))); refine qn ?_)
     have HZ := jh (ja hA5 (ja hB5 hb5))
     go_wp2_with fail
     go_meet
     exact ⟨_, _, rfl, rfl, HZ.out.1, HZ.out.2.1, by simp, by simp, Nat.le_refl _, HZ.out.2.2⟩
   case rest =>
    clear y0 y1 y2 y3 hlo
    obtain ⟨ga, gb, rfl, rfl, hA, hB, hne, hga, hgb, hbc⟩ := hcut
    have hzx := HO.out.2.2.2.2.2
    have hD : ArD wr.heap.size w.heap.size x r wc := ⟨HO.out.2.2.2.1.ext hbc, HO.out.2.2.2.2.1.ext hbc⟩
    haveI : Nonempty (Wd (ArD wr.heap.size w.heap.size x r)) := ⟨⟨_, hD⟩⟩
    have y0 := ArD.x0 (xb := wr.heap.size) (rb := w.heap.size) (x := x) (r := r)
    have y1 := ArD.x1 (xb := wr.heap.size) (rb := w.heap.size) (x := x) (r := r)
    have z0 := ArD.r0 (xb := wr.heap.size) (rb := w.heap.size) (x := x) (r := r)
    have z1 := ArD.r1 (xb := wr.heap.size) (rb := w.heap.size) (x := x) (r := r)
    go_upto_region 5 with fail
    refine wp_region_mix (.seg [0, 1, 2, 3, 4, 5, 6, 7, 8, 9, 10, 11, 12] 13 (.seg [14] 15 (.leaf []))) (fun w' => ∃ d : Wd (ArD wr.heap.size w.heap.size x r), w' = d.w) (by kernel_rfl) (by kernel_rfl) (fun _ _ d _ _ h => by cases d <;> exact h) (ClsW.mk (D := ArD wr.heap.size w.heap.size x r) ⟨hD.x.drew, hD.r.drew⟩) ?_
    unfold wpMix; simp only [pick, j1, j2, j3, j4]
    (repeat (show wpQuiet _ _ _ _ (_ :: _) _; go_big_quiet_step (fail))); refine qn ?_
    have hA' := hA.drew
    have hB' := hB.drew
    have hO2 := HO.out
    obtain ⟨lo, hlo⟩ : ∃ q, q = min x.last (r.first - 1) := ⟨_, rfl⟩
    obtain ⟨hi, hhi⟩ : ∃ q, q = max x.first (r.last + 1) := ⟨_, rfl⟩
    rw [← hlo, ← hhi]
    have ca : wc.drew.cell? ⟨ga, 1, none⟩ = some (.int .i64 x.last) := hA'.cell 1
    have fa := hA'.frozen 1
    have HLH := jh (ja hlo hhi)
    clear hlo hhi
    have hrx : w.heap.size ≠ wr.heap.size := by have := HB.out.2.2; have := HZR.out; omega
    have hzx := HO.out.2.2.2.2.2
    have n1 : wr.heap.size ≠ ga := by omega
    have n2 : w.heap.size ≠ ga := by have := HB.out.2.1.lt; have := HO.out.2.2.1.size; omega
    have n3 : wr.heap.size ≠ gb := by omega
    have n4 : w.heap.size ≠ gb := by have := HB.out.2.1.lt; have := HO.out.2.2.1.size; omega
    go_wp2_with fail
    have hD2 : ArD wr.heap.size w.heap.size x r ((wc.setCell ⟨ga, 1, none⟩ (.int .i64 lo)).drew) := ⟨(hD.x.only (Only.set_ (F := (· = ga)) rfl _) n1).drew, (hD.r.only (Only.set_ (F := (· = ga)) rfl _) n2).drew⟩
    dsimp only [wpList, SegQ]
    refine ⟨fun w' => ∃ d : Wd (ArD wr.heap.size w.heap.size x r), w' = d.w, ClsW.mk (D := ArD wr.heap.size w.heap.size x r) hD2, fun _ h => h, ?_⟩
    unfold wpMix; simp only [pick, j1, j2, j3, j4]
    (repeat (show wpQuiet _ _ _ _ (_ :: _) _; go_big_quiet_step (fail))); refine qn ?_
    have hB2 := (hB.only (Only.set_ (F := (· = ga)) (p := ⟨ga, 1, none⟩) rfl (.int .i64 lo)) (fun e => hne e.symm)).drew
    have cb : ((wc.setCell ⟨ga, 1, none⟩ (.int .i64 lo)).drew).cell? ⟨gb, 0, none⟩ = some (.int .i64 x.first) := hB2.cell 0
    have fb := hB2.frozen 0
    clear ca fa
    go_wp2_with fail
    have hD3 : ArD wr.heap.size w.heap.size x r (((wc.setCell ⟨ga, 1, none⟩ (.int .i64 lo)).setCell ⟨gb, 0, none⟩ (.int .i64 hi)).drew) := ⟨((hD.x.only (Only.set_ (F := (· = ga)) (p := ⟨ga, 1, none⟩) rfl (.int .i64 lo)) n1).only (Only.set_ (F := (· = gb)) rfl _) n3).drew, ((hD.r.only (Only.set_ (F := (· = ga)) (p := ⟨ga, 1, none⟩) rfl (.int .i64 lo)) n2).only (Only.set_ (F := (· = gb)) rfl _) n4).drew⟩
    dsimp only [wpList, SegQ]
    refine ⟨fun w' => ∃ d : Wd (ArD wr.heap.size w.heap.size x r), w' = d.w, ClsW.mk (D := ArD wr.heap.size w.heap.size x r) hD3, fun _ h => h, ?_⟩
    unfold wpMix; simp only [pick, List.filterMap_nil]
    (repeat (show wpQuiet _ _ _ _ (_ :: _) _; go_big_quiet_step (fail))); refine qn ?_
    have hA3 := ((hA.set_ 1 (.int .i64 lo)).only (Only.set_ (F := (· = gb)) (p := ⟨gb, 0, none⟩) rfl (.int .i64 hi)) hne).drew
    have hB3 := ((hB.only (Only.set_ (F := (· = ga)) (p := ⟨ga, 1, none⟩) rfl (.int .i64 lo)) (fun e => hne e.symm)).set_ 0 (.int .i64 hi)).drew
    have hb3 := ((hbc.st (p := ⟨ga, 1, none⟩) hga (.int .i64 lo)).st (p := ⟨gb, 0, none⟩) hgb (.int .i64 hi)).drew
    have hS3 : ArS ga gb wr.heap.size w.heap.size w1.heap.size [.int .i64 x.first, .int .i64 lo, .int .i64 x.owner, .int .i64 x.epoch] [.int .i64 hi, .int .i64 x.last, .int .i64 x.owner, .int .i64 x.epoch] x r w1 (.slice Ao (aroundR (l.take k) r).length co) (aroundR (l.take k) r) (((wc.setCell ⟨ga, 1, none⟩ (.int .i64 lo)).setCell ⟨gb, 0, none⟩ (.int .i64 hi)).drew) :=
     ⟨HO.out.1.ext hb3, hA3, hB3, hD3.x, hD3.r, fun q hq => by
      have h1 := (HO.out.2.1.lt q hq)
      have h2 := HB.out.2.1.lt
      refine ⟨?_, ?_, ?_, ?_⟩ <;> omega, HO.out.2.2.1.tr hb3⟩
    generalize hw7 : ((wc.setCell ⟨ga, 1, none⟩ (.int .i64 lo)).setCell ⟨gb, 0, none⟩ (.int .i64 hi)).drew = w7 at *
    have HS := jh hS3
    clear hw7 hA3 hB3 hb3 hD3 hD2 hD hB2 cb fb hA' hB' hO2 y0 y1 z0 z1 hA hB hbc
    have c0 : w7.cell? ⟨ga, 0, none⟩ = some (.int .i64 x.first) := hS3.low.cell 0
    have c1 : w7.cell? ⟨ga, 1, none⟩ = some (.int .i64 lo) := hS3.low.cell 1
    clear hS3
    go_upto_if 35 with fail
    have hal : (aroundR (l.take k) r).length ≤ 3000 := by
     have h1 := around_len (l.take k) r
     rw [List.length_take] at h1
     omega
    have hfx := HTS.out.2
    have hfr := HF.out
    have hlo64 : i64 lo := by
     rw [HLH.out.1]
     have h1 := hfx.2.1
     have h2 := hfr.1
     unfold i64 at *
     omega
    have hhi64 : i64 hi := by
     rw [HLH.out.2]
     have h1 := hfx.1
     unfold i64 at *
     omega
    have FL : Range.fit ⟨x.first, lo, x.owner, x.epoch⟩ := ⟨hfx.1, hlo64, hfx.2.2.1, hfx.2.2.2⟩
    have FH : Range.fit ⟨hi, x.last, x.owner, x.epoch⟩ := ⟨hhi64, hfx.2.1, hfx.2.2.1, hfx.2.2.2⟩
    obtain ⟨i0, e1, e2, e3, e4⟩ := info_parts range_info
    go_cut [4] (fun ov wx => ArS ga gb wr.heap.size w.heap.size w1.heap.size [.int .i64 x.first, .int .i64 lo, .int .i64 x.owner, .int .i64 x.epoch] [.int .i64 hi, .int .i64 x.last, .int .i64 x.owner, .int .i64 x.epoch] x r w1 ov (aroundR (l.take k) r ++ (if x.first ≤ lo then [(⟨x.first, lo, x.owner, x.epoch⟩ : Range)] else [])) wx)
    case first =>
     by_cases ht : x.first ≤ lo
     ·have c2 : w7.cell? ⟨ga, 2, none⟩ = some (.int .i64 x.owner) := HS.out.low.cell 2
      have c3 : w7.cell? ⟨ga, 3, none⟩ = some (.int .i64 x.epoch) := HS.out.low.cell 3
      have HT := jh ht
      go_wp2_with (first
       | (at_builtin; refine wpList_append_new (R := RangeR) w7 rfl (.tmp 36) (.tmp 38) _ rfl w1.heap.size 27 i0 _ 32 Tryz.underlying58 e1 e2 e3 e4 rfl _ (aroundR (l.take k) r) (fun _ => True) rfl HS.out.own (fun _ _ => trivial) rfl (fun _ => False) _ (range_rep.2 ⟨rfl, FL⟩) (fun _ h => h.elim) (by unfold maxLen; omega) (by omega) HS.out.below.size ?_; intro v8 w8 ho hg hat hn hb)
       | fail)
      have HM := jh (HS.out.app ho hg hat hb)
      clear ho hg hat hn hb
      go_wp2_with fail
      go_meet
      rw [if_pos HT.out]; exact HM.out
     ·have HT := jh ht
      go_wp2_with fail
      go_meet
      rw [if_neg (by have := HT.out; omega), List.append_nil]; exact HS.out
    case rest =>
     clear c0 c1 HS
     have HS := jh hcut
     obtain ⟨Aq, cq, rfl, _⟩ := hcut.own.form
     have hal2 : (aroundR (l.take k) r ++ (if x.first ≤ lo then [(⟨x.first, lo, x.owner, x.epoch⟩ : Range)] else [])).length ≤ 3001 := by rw [List.length_append]; split <;> simp <;> omega
     have r0 : wc.cell? ⟨w.heap.size, 0, none⟩ = some (.int .i64 r.first) := hcut.r.cell 0
     have x0 : wc.cell? ⟨wr.heap.size, 0, none⟩ = some (.int .i64 x.first) := hcut.x.cell 0
     have x1 : wc.cell? ⟨wr.heap.size, 1, none⟩ = some (.int .i64 x.last) := hcut.x.cell 1
     clear hcut
     have HACC := jh (around_snoc (l := l.take k) HLH.out.1 HLH.out.2)
     rw [← HTS.out.1] at HACC
     generalize aroundR (l.take k) r ++ (if x.first ≤ lo then [(⟨x.first, lo, x.owner, x.epoch⟩ : Range)] else []) = acc1 at *
     by_cases hq : x.first ≤ r.first
     all_goals
      have HQ := jh hq
      go_upto_if 51 with fail
      go_cut [4] (fun ov wx => ArS ga gb wr.heap.size w.heap.size w1.heap.size [.int .i64 x.first, .int .i64 lo, .int .i64 x.owner, .int .i64 x.epoch] [.int .i64 hi, .int .i64 x.last, .int .i64 x.owner, .int .i64 x.epoch] x r w1 ov (acc1 ++ (if x.first ≤ r.first ∧ r.first ≤ x.last then [r] else [])) wx)
      case first =>
       clear hq
       by_cases hq : x.first ≤ r.first
       ·by_cases ht : r.first ≤ x.last
        ·have r1 : wc.cell? ⟨w.heap.size, 1, none⟩ = some (.int .i64 r.last) := HS.out.r.cell 1
         have r2 : wc.cell? ⟨w.heap.size, 2, none⟩ = some (.int .i64 r.owner) := HS.out.r.cell 2
         have r3 : wc.cell? ⟨w.heap.size, 3, none⟩ = some (.int .i64 r.epoch) := HS.out.r.cell 3
         have HT := jh (ja hq ht)
         first
          | exact absurd hq HQ.out
          | (go_wp2_with (first
           | (at_builtin; refine wpList_append_new (R := RangeR) wc rfl (.tmp 52) (.tmp 54) _ rfl w1.heap.size 27 i0 _ 32 Tryz.underlying58 e1 e2 e3 e4 rfl _ acc1 (fun _ => True) rfl HS.out.own (fun _ _ => trivial) rfl (fun _ => False) _ (range_rep.2 ⟨rfl, hfr⟩) (fun _ h => h.elim) (by unfold maxLen; omega) (by omega) HS.out.below.size ?_; intro v8 w8 ho hg hat hn hb)
           | fail)
             have HM := jh (HS.out.app ho hg hat hb)
             clear ho hg hat hn hb
             go_wp2_with fail
             go_meet
             rw [if_pos HT.out]; exact HM.out)
        ·have HT := jh (show ¬ (x.first ≤ r.first ∧ r.first ≤ x.last) from fun h => ht h.2)
         first
          | exact absurd hq HQ.out
          | (go_wp2_with fail
             go_meet
             rw [if_neg (by have := HT.out; omega), List.append_nil]; exact HS.out)
       ·first
         | exact absurd HQ.out hq
         | (have HT := jh (show ¬ (x.first ≤ r.first ∧ r.first ≤ x.last) from fun h => hq h.1)
            go_wp2_with fail
            go_meet
            rw [if_neg (by have := HT.out; omega), List.append_nil]; exact HS.out)
      case rest =>
       clear r0 x0 x1 HS
       have HS := jh hcut
       obtain ⟨Ap, cp, rfl, _⟩ := hcut.own.form
       have hal3 : (acc1 ++ (if x.first ≤ r.first ∧ r.first ≤ x.last then [r] else [])).length ≤ 3002 := by rw [List.length_append]; split <;> simp <;> omega
       have h0' : wc.cell? ⟨gb, 0, none⟩ = some (.int .i64 hi) := hcut.high.cell 0
       have h1' : wc.cell? ⟨gb, 1, none⟩ = some (.int .i64 x.last) := hcut.high.cell 1
       have HGO := jh (show ∀ z, z = (if hi ≤ x.last then [(⟨hi, x.last, x.owner, x.epoch⟩ : Range)] else []) → aroundR (l.take (k + 1)) r = (acc1 ++ (if x.first ≤ r.first ∧ r.first ≤ x.last then [r] else [])) ++ z from fun z hz => by rw [hz]; exact HACC.out)
       clear hcut hq
       generalize acc1 ++ (if x.first ≤ r.first ∧ r.first ≤ x.last then [r] else []) = acc2 at *
       by_cases ht : hi ≤ x.last
       ·have HT := jh ht
        have h2' : wc.cell? ⟨gb, 2, none⟩ = some (.int .i64 x.owner) := HS.out.high.cell 2
        have h3' : wc.cell? ⟨gb, 3, none⟩ = some (.int .i64 x.epoch) := HS.out.high.cell 3
        go_wp2_with (first
         | (at_builtin; refine wpList_append_new (R := RangeR) wc rfl (.tmp 61) (.tmp 63) _ rfl w1.heap.size 27 i0 _ 32 Tryz.underlying58 e1 e2 e3 e4 rfl _ acc2 (fun _ => True) rfl HS.out.own (fun _ _ => trivial) rfl (fun _ => False) _ (range_rep.2 ⟨rfl, FH⟩) (fun _ h => h.elim) (by unfold maxLen; omega) (by omega) HS.out.below.size ?_; intro v8 w8 ho hg hat hn hb)
         | fail)
        have HM := jh (HS.out.app ho hg hat hb)
        clear ho hg hat hn hb h0' h1' h2' h3'
        go_wp2_with fail
        go_round
        case rel => exact ⟨k + 1, by omega, by go_num, by rw [HGO.out _ rfl, if_pos HT.out]; exact HM.out.own, HM.out.below⟩
        case measure => (simp [intOf]; omega)
       ·have HT := jh ht
        go_wp2_with fail
        go_round
        case rel => exact ⟨k + 1, by omega, by go_num, by rw [HGO.out _ rfl, if_neg (by have := HT.out; omega), List.append_nil]; exact HS.out.own, HS.out.below⟩
        case measure => (simp [intOf]; omega)
  ·have hkn : k = l.length := by omega
   subst hkn
   rw [List.take_length] at hown
   have HO := jh (ja hown (HB.out.1.tr hbl))
   obtain ⟨Ao, co, rfl, _⟩ := hown.form
   clear hown hbl
   go_wp2_with fail
   go_ret
   exact ⟨⟨_, rfl, (HO.out.1.plain range_plain).base' (by have := HB.out.2.2; omega)⟩, HO.out.2⟩
end Go.Proofs.YtcmjgghkmdbphaaGreatDoor
namespace Go.Proofs.YtcmjgghkmdbphaaGreatDoor
open Go.RowKit
theorem Blk.not_map {w : World} {b m : Nat} {t : TypeId} {cs : List Value} {ps : List (Str × Value)} (h : Blk w b t cs) (hM : MapAt strE w m ps) : b ≠ m := by
 intro e
 subst e
 obtain ⟨es, c, he, _⟩ := hM
 unfold Blk at h
 rw [h] at he
 cases he
theorem StrsAt.del {w w' : World} {P : Nat → Prop} {m : Nat} {TA : TabA} {n : Str} (h : StrsAt w P m TA) (hb : Only (· = m) w w') (hM : MapAt strE w' m (assocDel n TA.ptrs)) : StrsAt w' P m (delA n TA) := by
 refine ⟨?_, delA_nodup h.nd, fun p hp => ?_, h.apart.sublist (delA_sub n TA)⟩
 ·rw [assocDel_eq] at hM
  have e : TabA.ptrs (delA n TA) = delA n TA.ptrs := by unfold TabA.ptrs; rw [← delA_map (fun q : TS × SB => ptrV q.2.b)]
  rw [e]; exact hM
 ·have hq := h.each p ((delA_sub n TA).subset hp)
  have hnm := hq.1.not_map h.map
  exact ⟨hq.1.same (P := fun g => g ≠ m) ⟨fun e => hnm.1 e.symm, hq.2.1, fun g hg e => hnm.2 (e ▸ hg)⟩ (Same.of_only hb fun k hk e => hk e), hq.2⟩
theorem tab_del (n : Str) (TA : TabA) : TabA.tab (delA n TA) = delA n TA.tab := by unfold TabA.tab; rw [← delA_map (fun q : TS × SB => q.1)]
theorem drop_any (tb : Nat) (T : Tab) (r : Range) (P : Nat → Prop) (w : World) (h : TabAt w P tb T) (hl : T.length ≤ 40000) :
 Calls Tryz.prog 192 #[ptrV tb, .agg #[.int .i64 r.first, .int .i64 r.last, .int .i64 r.owner, .int .i64 r.epoch]] w fun e w' => (∃ n : Int, e = .returned (.int .i64 n)) ∧ TabAt w' P tb (dropT T r) ∧ Only (fun q => P q ∧ q < w.heap.size) w w' := by
 have hb0 := (jb w.heap.size w).al (.cells #[.int .i64 r.first, .int .i64 r.last, .int .i64 r.owner, .int .i64 r.epoch] 27)
 have C := some_any tb T r P (w.alloc (.cells #[.int .i64 r.first, .int .i64 r.last, .int .i64 r.owner, .int .i64 r.epoch] 27)) (h.ext hb0) (by omega)
 have HT := jh h
 have hln : (someT T r).length ≤ 40000 := by
  have h1 : (someT T r).length ≤ (sortS (T.map (·.1))).length := List.length_filter_le _ _
  rw [sortS_len, List.length_map] at h1
  omega
 unfold ptrV Range.val at C
 unfold ptrV
 have HD := jh (show dropT T r = (someT T r).foldl (fun T n => delA n T) T from rfl)
 have hnil : T = [] → someT T r = [] := fun e => by
  have h1 : (someT T r).length ≤ (sortS (T.map (·.1))).length := List.length_filter_le _ _
  rw [sortS_len, List.length_map, e] at h1
  exact List.eq_nil_of_length_eq_zero (by simpa [e] using h1)
 clear h
 go_enter Tryz.func192, Tryz.ntmps192
 go_wp2_with fail
 refine C.mono ?_
 clear C
 rintro e w1 ⟨⟨v, rfl, ho⟩, hb1⟩
 have hw1 := hb0.tr hb1
 have hz1 := hw1.size
 obtain ⟨A, c, rfl, _⟩ := ho.form
 have hz0 : (w.alloc (.cells #[.int .i64 r.first, .int .i64 r.last, .int .i64 r.owner, .int .i64 r.epoch] 27)).heap.size = w.heap.size + 1 := by simp
 have HN := jh (ja (ho.row' (P := fun q => w.heap.size ≤ q) str_plain (fun q hq => by have := (ho.lt q hq).1; omega)) hw1)
 have hT1 := HT.out.ext hw1
 have HNIL := jh hnil
 generalize someT T r = names at *
 have hnl : ((names.length : Nat) : Int) ≤ 40000 := by omega
 clear ho hb0 hb1 hw1 hz0 hnil
 obtain ⟨hPt, ⟨hB, h0⟩ | ⟨m, TA, hB, hPm, hS, hTe⟩⟩ := hT1
 ·have hn0 := HNIL.out h0
  subst hn0
  have HX := jh (ja hB h0)
  clear hB h0
  simp only [List.length_nil]
  go_wp2_with fail
  go_loopw [13] (fun i wr => i = .int .i64 0 ∧ wr = w1) (fun _ _ => 0)
  case atStart => exact ⟨rfl, rfl⟩
  case round =>
   obtain ⟨rfl, rfl⟩ := hrel
   go_wp2_with fail
   go_ret
   exact ⟨⟨_, rfl⟩, ⟨hPt, .inl ⟨HX.out.1, by rw [HD.out]; exact HX.out.2⟩⟩, jo HN.out.2⟩
 ·have hml := hS.map.lt
  have htl := hB.lt
  have H0 := jh (ja hB (ja hS (ja hTe hPm)))
  have hmw : m < w.heap.size := by
   obtain ⟨_, ⟨hB', _⟩ | ⟨m', TA', hB', _, hS', _⟩⟩ := HT.out
   ·have e1 := (hB'.ext HN.out.2).eq_ hB
    have e2 := e1.1
    injection e2 with e2 _
    injection e2 with e2
    cases e2
   ·have e1 := (hB'.ext HN.out.2).eq_ hB
    have e2 := e1.1
    injection e2 with e2 _
    injection e2 with e2
    injection e2 with e2
    subst e2
    exact hS'.map.lt
  clear hB hS hTe hPm
  go_wp2_with fail
  go_loopw [13] (fun i wr => ∃ (k : Nat) (TA' : TabA), k ≤ names.length ∧ i = .int .i64 k ∧ StrsAt wr P m TA' ∧ TA'.tab = (names.take k).foldl (fun T n => delA n T) T ∧ Only (· = m) w1 wr) (fun i _ => names.length - (intOf i).toNat)
  case atStart => exact ⟨0, TA, Nat.zero_le _, rfl, H0.out.2.1, by rw [List.take_zero]; exact H0.out.2.2.1.symm, Only.refl _ _⟩
  case round =>
   obtain ⟨k, TA', hk, rfl, hS, hTe, hO⟩ := hrel
   have hBr := H0.out.1.only hO (H0.out.1.not_map H0.out.2.1.map)
   have HTE := jh (ja hTe hO)
   clear hTe
   by_cases hlt : k < names.length
   ·have hlk := jg hlt
    have hts := take_snoc names k hlt
    obtain ⟨bb, o, cs, rfl, _, _, ⟨rfl, _⟩, hcs⟩ := (HN.out.1.same (w' := wr) (Same.of_only hO fun q hq e => by have e' : q = m := e; omega) hO.size).at_ hlk
    generalize names[k] = n at *
    have c0 := hcs 0 _ rfl; simp only [StrR_size, Nat.add_zero, Nat.mul_one] at c0
    have HTS := jh hts
    have y0 : wr.cell? ⟨tb, 0, none⟩ = some (.map (some m)) := hBr.cell 0
    have hlt' : (k : Int) < names.length := by omega
    have hM := hS.map
    have HS := jh hS
    clear hlk hts hcs hBr hO hS
    go_wp2_with (first
     | (at_delete; refine wpList_delete_map strKey rfl (.tmp 20) (.tmp 21) 250 rfl Tryz.underlying250 rfl hM n rfl ?_; intro w4 hM4 hO4)
     | fail)
    have hS4 := HS.out.del hO4 hM4
    have HS4 := jh (ja hS4 (HTE.out.2.tr hO4))
    clear hM hM4 hO4 hS4
    go_wp2_with fail
    go_round
    case rel => exact ⟨k + 1, delA n TA', by omega, by go_num, HS4.out.1, by rw [tab_del, HTE.out.1, HTS.out, List.foldl_append]; rfl, HS4.out.2⟩
    case measure => simp [intOf]; omega
   ·have hkn : k = names.length := by omega
    subst hkn
    have HB := jh (ja hBr hS)
    clear hBr hS hO
    go_wp2_with fail
    go_ret
    refine ⟨⟨_, rfl⟩, ⟨hPt, .inr ⟨m, TA', HB.out.1, H0.out.2.2.2, HB.out.2, ?_⟩⟩, ?_⟩
    ·have h1 := HTE.out.1
     rw [List.take_length] at h1
     rw [HD.out, h1]
    ·exact (jo HN.out.2).trans HTE.out.2 fun q hq e => by have e' : q = m := e; subst e'; exact ⟨H0.out.2.2.2, hq⟩
end Go.Proofs.YtcmjgghkmdbphaaGreatDoor
