/- ring.Split. The library's search in records. state: iced, split. penstockalike: Sum, Total, Batch: how large a thing is. -/
import Derived.Test.YtpgocpodhamibaaGreatDoorN01
import Derived.Test.YtpgocpodhamibaaGreatDoorNL01
import Derived.Test.YtpgocpodhamibaaGreatDoorNK07
import Derived.Test.YtpgocpodhamibaaGreatDoorNK02
import Derived.Test.YtpgocpodhamibaaGreatDoorNK03
namespace Go.Proofs.YtpgocpodhamibaaGreatDoor
open Go.RowKit Go.Shelf
theorem range_row2 {W : World} {P : Nat → Prop} {b : Nat} {t : TypeId} {x y : Range} (hx : x.fit) (hy : y.fit) (hB : Blk W b t (x.cells ++ y.cells)) (hP : P b) : RangeR.Row W P (some ⟨b, 0, none⟩) [x, y] := fun _ => by
 refine ⟨b, 0, rfl, hP, hB.lt, fun i a hi => ?_⟩
 match i, hi with
 | 0, hi =>
   simp at hi; subst hi
   refine ⟨x.cells, range_rep.2 ⟨rfl, hx⟩, fun j u hu => ?_⟩
   have hj : j < x.cells.length := (List.getElem?_eq_some_iff.1 hu).1
   rw [show 0 + 0 * RangeR.size + j = j from by simp, hB.cell, List.getElem?_append_left hj]; exact hu
 | 1, hi =>
   simp at hi; subst hi
   refine ⟨y.cells, range_rep.2 ⟨rfl, hy⟩, fun j u hu => ?_⟩
   rw [show 0 + 1 * RangeR.size + j = x.cells.length + j from by simp [RangeR_size, Range.cells], hB.cell, List.getElem?_append_right (by omega), Nat.add_sub_cancel_left]; exact hu
def GotSplit (B : Nat) (q : List Range × Int) (e : Ending) (w' : World) : Prop := ∃ v, e = .returned (.tuple #[v, .int .i64 q.2]) ∧ RangeR.Own w' B 40 (fun _ => False) v q.1
set_option maxRecDepth 20000 in
set_option maxHeartbeats 3200000 in
theorem split_any (A : Option Addr) (c : Nat) (l : List Range) (m0 : Int) (P : Nat → Prop) (w : World) (hr : RangeR.Row w P A l) (hc : l.length ≤ c ∧ c ≤ 9223372036854775807) (hl : l.length ≤ 1000000) :
 Calls Tryz.prog 156 #[.slice A l.length c, .int .i64 m0] w fun e w' => GotSplit w.heap.size (splitR l m0) e w' ∧ Below w.heap.size w w' := by
 have C1 := at_any A c l m0 P w hr hl
 have HR := jh (hr.mono (Q := fun g => g < w.heap.size) fun g _ m0 => m0); clear hr
 have HF := jh (show splitR l m0 = (if atR l m0 < 0 ∨ (l.getD (atR l m0).toNat zeroRange).first = m0 ∨ (l.getD (atR l m0).toNat zeroRange).epoch = 1099511627776 then ([], 1) else if 64 ≤ l.length then ([], 2) else (l.take (atR l m0).toNat ++ ([{ l.getD (atR l m0).toNat zeroRange with last := m0 - 1, epoch := (l.getD (atR l m0).toNat zeroRange).epoch + 1 }, { l.getD (atR l m0).toNat zeroRange with first := m0, epoch := (l.getD (atR l m0).toNat zeroRange).epoch + 1 }] ++ l.drop ((atR l m0).toNat + 1)), 0)) from rfl)
 have HN := jh (show (0 ≤ atR l m0 → ∃ a x b, l = a ++ x :: b ∧ x.has m0 = true ∧ atR l m0 = (a.length : Int) ∧ soundR l = true) from fun hn => at_nonneg (by omega))
 generalize atR l m0 = i at *
 go_enter Tryz.func156, Tryz.ntmps156
 go_wp2_with fail
 refine C1.mono ?_
 clear C1
 rintro e w1 ⟨rfl, hb1⟩
 by_cases hi : i < 0
 ·have HI := jh hi
  go_wp2_with fail
  go_ret2
  rw [HF.out, if_pos (.inl HI.out)]
  exact ⟨⟨_, rfl, Rep.Own.nil_⟩, hb1⟩
 have HI := jh hi
 have hi' : decide (i < 0) = false := decide_eq_false hi
 obtain ⟨a, x, b, hlab, hx, hia, hs⟩ := HN.out (by omega)
 have hlk : l[a.length]? = some x := by rw [hlab]; simp
 have hbd := soundFrom_mem (sound_iff.1 hs).1 (show x ∈ l from List.mem_of_getElem? hlk)
 obtain ⟨hb0, hb2, hb3, hb4, hbo⟩ := hbd
 rw [ownedB_iff] at hbo
 rw [has_iff] at hx
 have hkl : a.length < l.length := (List.getElem?_eq_some_iff.1 hlk).1
 have HG := jh (show l.getD i.toNat zeroRange = x from by rw [hia]; simp [hlk])
 rw [HG.out] at HF
 have HT := jh (show i.toNat = a.length from by rw [hia]; simp)
 rw [HT.out] at HF
 obtain ⟨bb, o, cs, rfl, hP, hbw, hrep, hcs⟩ := (HR.out.ext hb1).at_ hlk
 obtain ⟨rfl, hf⟩ := range_rep.1 hrep
 have c0 := hcs 0 _ rfl; have c1 := hcs 1 _ rfl; have c2 := hcs 2 _ rfl; have c3 := hcs 3 _ rfl; simp only [RangeR_size, Nat.add_zero] at c0 c1 c2 c3
 obtain ⟨ho1, ho2, ho3, ho4⟩ := hbo
 have HA := jh (ja hlab (ja hlk hs))
 have hal : ((a.length : Nat) : Int) < l.length := by omega
 have hl0 : 0 ≤ ((a.length : Nat) : Int) := Int.natCast_nonneg _
 have HB1 := jh hb1
 subst hia
 clear hlab hlk hs hrep hcs hi hb1
 generalize hk : a.length = k at *
 clear hk
 by_cases h1 : x.first = m0
 ·have H1 := jh h1
  have g1 : (x.first == m0) = true := beq_iff_eq.2 h1
  clear h1
  go_wp2_with fail
  go_ret2
  rw [HF.out, if_pos (.inr (.inl H1.out))]
  exact ⟨⟨_, rfl, Rep.Own.nil_⟩, HB1.out⟩
 have H1 := jh h1
 have g1 : (x.first == m0) = false := beq_eq_false_iff_ne.2 h1
 by_cases h2 : x.epoch = 1099511627776
 ·have H2 := jh h2
  have g2 : (x.epoch == 1099511627776) = true := beq_iff_eq.2 h2
  clear h2 h1
  go_wp2_with fail
  go_ret2
  rw [HF.out, if_pos (.inr (.inr H2.out))]
  exact ⟨⟨_, rfl, Rep.Own.nil_⟩, HB1.out⟩
 have H2 := jh h2
 have g2 : (x.epoch == 1099511627776) = false := beq_eq_false_iff_ne.2 h2
 rw [if_neg (fun q => q.elim HI.out (fun q => q.elim H1.out H2.out))] at HF
 by_cases h3 : 64 ≤ l.length
 ·have H3 := jh h3
  have h3' : (64 : Int) ≤ l.length := by omega
  clear h1 h2
  go_wp2_with fail
  go_ret2
  rw [HF.out, if_pos H3.out]
  exact ⟨⟨_, rfl, Rep.Own.nil_⟩, HB1.out⟩
 rw [if_neg h3] at HF
 have h3' : (l.length : Int) < 64 := by omega
 have hz1 := HB1.out.size
 have hxe : x.epoch + 1 ≤ 1099511627776 := by omega
 clear h1 h2
 go_upto_region 6 with fail
 have y0 := On.cell c0
 have y1 := On.cell c1
 have y2 := On.cell c2
 have y3 := On.cell c3
 have hlo := jb w1.heap.size w1
 go_cut [7, 8] (fun av bv wx => ∃ ga gb : Nat, av = .pointer (some ⟨ga, 0, none⟩) ∧ bv = .pointer (some ⟨gb, 0, none⟩) ∧ Blk wx ga 40 x.cells ∧ Blk wx gb 40 x.cells ∧ ga ≠ gb ∧ w1.heap.size ≤ ga ∧ w1.heap.size ≤ gb ∧ Below w1.heap.size w1 wx)
 case first =>
  refine wp_region_mix (.fork [0, 1, 2, 3, 4, 5, 6, 7] 8 (.seg [] 9 (.seg [] 10 (.seg [] 11 (.leaf [])))) 9 (.seg [] 8 (.seg [] 10 (.seg [] 11 (.leaf []))))) (fun w' => ∃ d : Wd (On w1), w' = d.w) (by kernel_rfl) (by kernel_rfl) (fun _ _ d _ _ h => by cases d <;> exact h) (ClsW.mk hlo.drew) ?_
  unfold wpMix; simp only [pick, j1, j2, j3, j4]
  (repeat (show wpQuiet _ _ _ _ (_ :: _) _; go_big_quiet_step (fail))); refine qn ?_
  constructor
  ·go_wp2_with fail
   have hba := (jb w1.heap.size w1).al (.cells #[.int .i64 0, .int .i64 0, .int .i64 0, .int .i64 0] 40)
   (dsimp only [wpList, SegQ]; refine ⟨fun w' => ∃ d : Wd (On w1), w' = d.w, ClsW.mk (hba.drew), fun _ h => h, ?_⟩; unfold wpMix; simp only [pick, j1, j2, j3, j4]; (repeat (show wpQuiet _ _ _ _ (_ :: _) _; go_big_quiet_step (fail))); refine qn ?_)
   go_wp2_with fail
   have hbb := (hba.al (.cells #[.int .i64 0, .int .i64 0, .int .i64 0, .int .i64 0] 40)).drew
   (dsimp only [wpList, SegQ]; refine ⟨fun w' => ∃ d : Wd (On w1), w' = d.w, ClsW.mk (hbb), fun _ h => h, ?_⟩; unfold wpMix; simp only [pick, j1, j2, j3, j4]; (repeat (show wpQuiet _ _ _ _ (_ :: _) _; go_big_quiet_step (fail))); refine qn ?_)
   refine wpList_store_blk (cs := x.cells) rfl rfl rfl rfl rfl (((Blk.new w1 40 [.int .i64 0, .int .i64 0, .int .i64 0, .int .i64 0]).alloc (.cells #[.int .i64 0, .int .i64 0, .int .i64 0, .int .i64 0] 40)).ext (jb _ _).drew) (by kernel_rfl) rfl (by simp [Range.cells, Value.oneCell']) ?_
   intro w4 hB4 hO4 hz4
   have hN4 := ((Blk.new1 w1 (.cells #[.int .i64 0, .int .i64 0, .int .i64 0, .int .i64 0] 40) 40 [.int .i64 0, .int .i64 0, .int .i64 0, .int .i64 0]).ext (jb _ _).drew).only hO4 (by simp)
   have hb4 := hbb.trans (hO4.low (fun k e => by have e' : k = w1.heap.size := e; omega) hbb.size)
   (dsimp only [wpList, SegQ]; refine ⟨fun w' => ∃ d : Wd (On w1), w' = d.w, ClsW.mk (hb4), fun _ h => h, ?_⟩; unfold wpMix; simp only [pick, j1, j2, j3, j4]; (repeat (show wpQuiet _ _ _ _ (_ :: _) _; go_big_quiet_step (fail))); refine qn ?_)
   refine wpList_store_blk (cs := x.cells) rfl rfl rfl rfl rfl hN4 (by kernel_rfl) rfl (by simp [Range.cells, Value.oneCell']) ?_
   intro w5 hB5 hO5 hz5
   have hA5 := hB4.only hO5 (by simp)
   have hb5 := hb4.trans (hO5.low (fun k e => by have e' : k = _ := e; rw [e']; simp) hb4.size)
   (dsimp only [wpList, SegQ]; refine ⟨fun w' => ∃ d : Wd (On w1), w' = d.w, ClsW.mk (hb5), fun _ h => h, ?_⟩; unfold wpMix; simp only [pick, j2]; (repeat (show wpQuiet _ _ _ _ (_ :: _) _; go_big_quiet_step (fail))); refine qn ?_)
   have HZ := jh (ja hA5 (ja hB5 hb5))
   go_wp2_with fail
   go_meet
   exact ⟨_, _, rfl, rfl, HZ.out.1, HZ.out.2.1, by simp, Nat.le_refl _, by simp, HZ.out.2.2⟩
  ·go_wp2_with fail
   have hba := (jb w1.heap.size w1).al (.cells #[.int .i64 0, .int .i64 0, .int .i64 0, .int .i64 0] 40)
   (dsimp only [wpList, SegQ]; refine ⟨fun w' => ∃ d : Wd (On w1), w' = d.w, ClsW.mk (hba.drew), fun _ h => h, ?_⟩; unfold wpMix; simp only [pick, j1, j2, j3, j4]; (repeat (show wpQuiet _ _ _ _ (_ :: _) _; go_big_quiet_step (fail))); refine qn ?_)
   go_wp2_with fail
   have hbb := (hba.al (.cells #[.int .i64 0, .int .i64 0, .int .i64 0, .int .i64 0] 40)).drew
   (dsimp only [wpList, SegQ]; refine ⟨fun w' => ∃ d : Wd (On w1), w' = d.w, ClsW.mk (hbb), fun _ h => h, ?_⟩; unfold wpMix; simp only [pick, j1, j2, j3, j4]; (repeat (show wpQuiet _ _ _ _ (_ :: _) _; go_big_quiet_step (fail))); refine qn ?_)
   refine wpList_store_blk (cs := x.cells) rfl rfl rfl rfl rfl ((Blk.new1 w1 (.cells #[.int .i64 0, .int .i64 0, .int .i64 0, .int .i64 0] 40) 40 [.int .i64 0, .int .i64 0, .int .i64 0, .int .i64 0]).ext (jb _ _).drew) (by kernel_rfl) rfl (by simp [Range.cells, Value.oneCell']) ?_
   intro w4 hB4 hO4 hz4
   have hN4 := (((Blk.new w1 40 [.int .i64 0, .int .i64 0, .int .i64 0, .int .i64 0]).alloc (.cells #[.int .i64 0, .int .i64 0, .int .i64 0, .int .i64 0] 40)).ext (jb _ _).drew).only hO4 (by simp)
   have hb4 := hbb.trans (hO4.low (fun k e => by have e' : k = _ := e; rw [e']; simp) hbb.size)
   (dsimp only [wpList, SegQ]; refine ⟨fun w' => ∃ d : Wd (On w1), w' = d.w, ClsW.mk (hb4), fun _ h => h, ?_⟩; unfold wpMix; simp only [pick, j1, j2, j3, j4]; (repeat (show wpQuiet _ _ _ _ (_ :: _) _; go_big_quiet_step (fail))); refine qn ?_)
   refine wpList_store_blk (cs := x.cells) rfl rfl rfl rfl rfl hN4 (by kernel_rfl) rfl (by simp [Range.cells, Value.oneCell']) ?_
   intro w5 hB5 hO5 hz5
   have hA5 := hB4.only hO5 (by simp)
   have hb5 := hb4.trans (hO5.low (fun k e => by have e' : k = w1.heap.size := e; omega) hb4.size)
   (dsimp only [wpList, SegQ]; refine ⟨fun w' => ∃ d : Wd (On w1), w' = d.w, ClsW.mk (hb5), fun _ h => h, ?_⟩; unfold wpMix; simp only [pick, j2]; (repeat (show wpQuiet _ _ _ _ (_ :: _) _; go_big_quiet_step (fail))); refine qn ?_)
   have HZ := jh (ja hA5 (ja hB5 hb5))
   go_wp2_with fail
   go_meet
   exact ⟨_, _, rfl, rfl, HZ.out.1, HZ.out.2.1, by simp, by simp, Nat.le_refl _, HZ.out.2.2⟩
 case rest =>
  clear y0 y1 y2 y3 hlo c0 c1 c2 c3
  obtain ⟨ga, gb, rfl, rfl, hA, hB, hne, hga, hgb, hbc⟩ := hcut
  have a1 : wc.cell? ⟨ga, 1, none⟩ = some (.int .i64 x.last) := hA.cell 1
  have a3 : wc.cell? ⟨ga, 3, none⟩ = some (.int .i64 x.epoch) := hA.cell 3
  have b0 : wc.cell? ⟨gb, 0, none⟩ = some (.int .i64 x.first) := hB.cell 0
  have b3 : wc.cell? ⟨gb, 3, none⟩ = some (.int .i64 x.epoch) := hB.cell 3
  have f1 := hA.frozen 1
  have f3 := hA.frozen 3
  have k0 := hB.frozen 0
  have k3 := hB.frozen 3
  have HAB := jh (ja hA (ja hB hbc))
  have hne2 : gb ≠ ga := fun e => hne e.symm
  clear hA hB hbc
  go_upto_region 10 with fail
  refine forget (M := fun W => Code.wp _ _ _ _ W) (fun W => Blk W ga 40 [.int .i64 x.first, .int .i64 (m0 - 1), .int .i64 x.owner, .int .i64 (x.epoch + 1)] ∧ Blk W gb 40 [.int .i64 m0, .int .i64 x.last, .int .i64 x.owner, .int .i64 (x.epoch + 1)] ∧ Below w1.heap.size w1 W)
   ⟨(((HAB.out.1.set_ 3 _).only (Only.set_ (F := (· = gb)) rfl _) hne).set_ 1 _).only (Only.set_ (F := (· = gb)) rfl _) hne,
    ((((HAB.out.2.1.only (Only.set_ (F := (· = ga)) rfl _) hne2).set_ 3 _).only (Only.set_ (F := (· = ga)) rfl _) hne2).set_ 0 _), (((HAB.out.2.2.st hga _).st hgb _).st hga _).st hgb _⟩ ?_
  clear a1 a3 b0 b3 f1 f3 k0 k3
  rintro w4 ⟨hA4, hB4, hb4'⟩
  have a0 := On.cell (hA4.cell 0 : w4.cell? ⟨ga, 0, none⟩ = some (.int .i64 x.first))
  have a1 := On.cell (hA4.cell 1 : w4.cell? ⟨ga, 1, none⟩ = some (.int .i64 (m0 - 1)))
  have a2 := On.cell (hA4.cell 2 : w4.cell? ⟨ga, 2, none⟩ = some (.int .i64 x.owner))
  have a3 := On.cell (hA4.cell 3 : w4.cell? ⟨ga, 3, none⟩ = some (.int .i64 (x.epoch + 1)))
  have b0 := On.cell (hB4.cell 0 : w4.cell? ⟨gb, 0, none⟩ = some (.int .i64 m0))
  have b1 := On.cell (hB4.cell 1 : w4.cell? ⟨gb, 1, none⟩ = some (.int .i64 x.last))
  have b2 := On.cell (hB4.cell 2 : w4.cell? ⟨gb, 2, none⟩ = some (.int .i64 x.owner))
  have b3 := On.cell (hB4.cell 3 : w4.cell? ⟨gb, 3, none⟩ = some (.int .i64 (x.epoch + 1)))
  have HB4 := jh hb4'
  have hlo := jb w4.heap.size w4
  clear hA4 hB4 hb4'
  refine wp_region_mix (.seg [0, 1, 2, 3, 4, 6, 7, 8, 9] 5 (.seg [] 10 (.seg [] 11 (.leaf [12, 13])))) (fun w' => ∃ d : Wd (On w4), w' = d.w) (by kernel_rfl) (by kernel_rfl) (fun _ _ d _ _ h => by cases d <;> exact h) (ClsW.mk hlo.drew) ?_
  unfold wpMix; simp only [pick, j1, j2, j3, j4]
  (repeat (show wpQuiet _ _ _ _ (_ :: _) _; go_big_quiet_step (fail))); refine qn ?_
  have hrowA := HR.out.ext (HB1.out.tr HB4.out)
  have hpre := hrowA.pre k
  have hcut := hrowA.cut (k := k + 1) (n := l.length - (k + 1)) (cap := c) (by omega) hc.1
  rw [List.take_of_length_le (by rw [List.length_drop]; exact Nat.le_refl _)] at hcut
  have hcut := ja (fun e : c = k + 1 => (show RangeR.Row w4 (fun q => q < w.heap.size) (some ⟨bb, o, none⟩) (l.drop (k + 1)) from by rw [if_pos e] at hcut; exact hcut)) (fun e : ¬ c = k + 1 => (show RangeR.Row w4 (fun q => q < w.heap.size) (some ⟨bb, o + (k + 1) * 4, none⟩) (l.drop (k + 1)) from by rw [if_neg e] at hcut; exact hcut))
  have hl1 : (l.take k).length = k := by rw [List.length_take]; omega
  have hl2 : (l.drop (k + 1)).length = l.length - (k + 1) := List.length_drop
  have hfl : Range.fit ⟨x.first, m0 - 1, x.owner, x.epoch + 1⟩ := ⟨hf.1, ⟨by show (-9223372036854775808 : Int) ≤ m0 - 1; omega, by show m0 - 1 ≤ (9223372036854775807 : Int); omega⟩, hf.2.2.1, ⟨by show (-9223372036854775808 : Int) ≤ x.epoch + 1; omega, by show x.epoch + 1 ≤ (9223372036854775807 : Int); omega⟩⟩
  have hfh : Range.fit ⟨m0, x.last, x.owner, x.epoch + 1⟩ := ⟨⟨by show (-9223372036854775808 : Int) ≤ m0; omega, by show m0 ≤ (9223372036854775807 : Int); omega⟩, hf.2.1, hf.2.2.1, ⟨by show (-9223372036854775808 : Int) ≤ x.epoch + 1; omega, by show x.epoch + 1 ≤ (9223372036854775807 : Int); omega⟩⟩
  have HROW := jh (ja hpre (ja hcut (ja hl1 (ja hl2 (ja hfl hfh)))))
  have hz4 := HB4.out.size
  clear hpre hcut hl1 hl2 hfl hfh hrowA
  go_wp2_with fail
  all_goals have hb5 := hlo.al (.cells #[.int .i64 x.first, .int .i64 (m0 - 1), .int .i64 x.owner, .int .i64 (x.epoch + 1), .int .i64 m0, .int .i64 x.last, .int .i64 x.owner, .int .i64 (x.epoch + 1)] 40)
  case inl =>
   (dsimp only [wpList, SegQ]; refine ⟨fun w' => ∃ d : Wd (On w4), w' = d.w, ClsW.mk (hb5.drew), fun _ h => h, ?_⟩; unfold wpMix; simp only [pick, j1, j2, j3, j4]; (repeat (show wpQuiet _ _ _ _ (_ :: _) _; go_big_quiet_step (fail))); refine qn ?_)
   go_wp2_with fail
   have hb6 := (hb5.al (.cells #[.slice (some ⟨bb, o, none⟩) k (k + 1), .slice (some ⟨w4.heap.size, 0, none⟩) 2 2, .slice (some ⟨bb, o, none⟩) (l.length - (k + 1)) 0] 51)).drew
   (dsimp only [wpList, SegQ]; refine ⟨fun w' => ∃ d : Wd (On w4), w' = d.w, ClsW.mk (hb6), fun _ h => h, ?_⟩; unfold wpMix; simp only [pick, j1, j2, j3, j4]; (repeat (show wpQuiet _ _ _ _ (_ :: _) _; go_big_quiet_step (fail))); refine qn ?_)
   have hX : RowsAt (((w4.alloc (.cells #[.int .i64 x.first, .int .i64 (m0 - 1), .int .i64 x.owner, .int .i64 (x.epoch + 1), .int .i64 m0, .int .i64 x.last, .int .i64 x.owner, .int .i64 (x.epoch + 1)] 40)).alloc (.cells #[.slice (some ⟨bb, o, none⟩) k (k + 1), .slice (some ⟨w4.heap.size, 0, none⟩) 2 2, .slice (some ⟨bb, o, none⟩) (l.length - (k + 1)) 0] 51)).drew)
    (w4.heap.size + 2) (w4.heap.size + 1) [(some ⟨bb, o, none⟩, (k + 1), l.take k), (some ⟨w4.heap.size, 0, none⟩, 2, [⟨x.first, m0 - 1, x.owner, x.epoch + 1⟩, ⟨m0, x.last, x.owner, x.epoch + 1⟩]), (some ⟨bb, o, none⟩, 0, l.drop (k + 1))] := by
    obtain ⟨hpre, hcut, hl1, hl2, hfl, hfh⟩ := HROW.out
    refine ⟨?_, fun y hy => ?_⟩
    ·simp only [List.map_cons, List.map_nil, hl1, hl2]
     exact (Blk.new1 w4 _ 51 [.slice (some ⟨bb, o, none⟩) k (k + 1), .slice (some ⟨w4.heap.size, 0, none⟩) 2 2, .slice (some ⟨bb, o, none⟩) (l.length - (k + 1)) 0]).ext (jb _ _).drew
    ·simp only [List.mem_cons, List.not_mem_nil, or_false] at hy
     rcases hy with rfl | rfl | rfl
     ·exact (hpre.ext hb6).mono fun q hq _ => by omega
     ·exact range_row2 hfl hfh (((Blk.new w4 40 [.int .i64 x.first, .int .i64 (m0 - 1), .int .i64 x.owner, .int .i64 (x.epoch + 1), .int .i64 m0, .int .i64 x.last, .int .i64 x.owner, .int .i64 (x.epoch + 1)]).alloc _).ext (jb _ _).drew) (by omega)
     ·have hcut := hcut.1 h
      exact (hcut.ext hb6).mono fun q hq _ => by omega
   have hcat : catL [((some ⟨bb, o, none⟩ : Option Addr), (k + 1), l.take k), (some ⟨w4.heap.size, 0, none⟩, 2, [⟨x.first, m0 - 1, x.owner, x.epoch + 1⟩, ⟨m0, x.last, x.owner, x.epoch + 1⟩]), (some ⟨bb, o, none⟩, 0, l.drop (k + 1))] = (splitR l m0).1 := by
    rw [HF.out]; simp [catL]
   have hz : (((w4.alloc (.cells #[.int .i64 x.first, .int .i64 (m0 - 1), .int .i64 x.owner, .int .i64 (x.epoch + 1), .int .i64 m0, .int .i64 x.last, .int .i64 x.owner, .int .i64 (x.epoch + 1)] 40)).alloc (.cells #[.slice (some ⟨bb, o, none⟩) k (k + 1), .slice (some ⟨w4.heap.size, 0, none⟩) 2 2, .slice (some ⟨bb, o, none⟩) (l.length - (k + 1)) 0] 51)).drew).heap.size = w4.heap.size + 2 := by simp
   rw [← hz] at hX
   have hlen : (splitR l m0).1.length = l.length + 1 := by
    rw [HF.out]
    simp only [List.length_append, HROW.out.2.2.1, HROW.out.2.2.2.1, List.length_cons, List.length_nil]
    omega
   have CC := concat_any _ _ _ hX (by rw [hcat, hlen]; omega) (by rw [hcat, hlen]; omega) (by simp)
   rw [hcat] at CC
   unfold GotOwn at CC
   clear hX hcat hlen a0 a1 a2 a3 b0 b1 b2 b3
   have HSZ := jh (ja hz hb6)
   clear hz hb6 hb5
   go_wp2_with fail
   refine CC.mono ?_
   clear CC
   rintro e w6 ⟨⟨v6, rfl, ho6⟩, hb7⟩
   have hb8 := HSZ.out.2.tr hb7
   have HO := jh (ja ho6 hb8)
   obtain ⟨A6, c6, rfl, _⟩ := ho6.form
   clear ho6 hb7
   go_wp2_with fail
   (dsimp only [wpList, SegQ]; refine ⟨fun w' => ∃ d : Wd (On w4), w' = d.w, ClsW.mk (hb8), fun _ h => h, ?_⟩; unfold wpMix; simp only [pick, j1, j2, j3, j4]; (repeat (show wpQuiet _ _ _ _ (_ :: _) _; go_big_quiet_step (fail))); refine qn ?_)
   clear hlo hb8
   go_wp2_with fail
   go_ret2
   have hb9 := HB4.out.tr HO.out.2
   refine ⟨⟨_, ?_, HO.out.1.base' (by have := HSZ.out.1; omega)⟩, HB1.out.tr hb9⟩
   rw [show (splitR l m0).2 = 0 from by rw [HF.out]]
   rfl
  case inr =>
   (dsimp only [wpList, SegQ]; refine ⟨fun w' => ∃ d : Wd (On w4), w' = d.w, ClsW.mk (hb5.drew), fun _ h => h, ?_⟩; unfold wpMix; simp only [pick, j1, j2, j3, j4]; (repeat (show wpQuiet _ _ _ _ (_ :: _) _; go_big_quiet_step (fail))); refine qn ?_)
   go_wp2_with fail
   have hb6 := (hb5.al (.cells #[.slice (some ⟨bb, o, none⟩) k c, .slice (some ⟨w4.heap.size, 0, none⟩) 2 2, .slice (some ⟨bb, o + (k + 1) * 4, none⟩) (l.length - (k + 1)) (c - (k + 1))] 51)).drew
   (dsimp only [wpList, SegQ]; refine ⟨fun w' => ∃ d : Wd (On w4), w' = d.w, ClsW.mk (hb6), fun _ h => h, ?_⟩; unfold wpMix; simp only [pick, j1, j2, j3, j4]; (repeat (show wpQuiet _ _ _ _ (_ :: _) _; go_big_quiet_step (fail))); refine qn ?_)
   have hX : RowsAt (((w4.alloc (.cells #[.int .i64 x.first, .int .i64 (m0 - 1), .int .i64 x.owner, .int .i64 (x.epoch + 1), .int .i64 m0, .int .i64 x.last, .int .i64 x.owner, .int .i64 (x.epoch + 1)] 40)).alloc (.cells #[.slice (some ⟨bb, o, none⟩) k c, .slice (some ⟨w4.heap.size, 0, none⟩) 2 2, .slice (some ⟨bb, o + (k + 1) * 4, none⟩) (l.length - (k + 1)) (c - (k + 1))] 51)).drew)
    (w4.heap.size + 2) (w4.heap.size + 1) [(some ⟨bb, o, none⟩, c, l.take k), (some ⟨w4.heap.size, 0, none⟩, 2, [⟨x.first, m0 - 1, x.owner, x.epoch + 1⟩, ⟨m0, x.last, x.owner, x.epoch + 1⟩]), (some ⟨bb, o + (k + 1) * 4, none⟩, (c - (k + 1)), l.drop (k + 1))] := by
    obtain ⟨hpre, hcut, hl1, hl2, hfl, hfh⟩ := HROW.out
    refine ⟨?_, fun y hy => ?_⟩
    ·simp only [List.map_cons, List.map_nil, hl1, hl2]
     exact (Blk.new1 w4 _ 51 [.slice (some ⟨bb, o, none⟩) k c, .slice (some ⟨w4.heap.size, 0, none⟩) 2 2, .slice (some ⟨bb, o + (k + 1) * 4, none⟩) (l.length - (k + 1)) (c - (k + 1))]).ext (jb _ _).drew
    ·simp only [List.mem_cons, List.not_mem_nil, or_false] at hy
     rcases hy with rfl | rfl | rfl
     ·exact (hpre.ext hb6).mono fun q hq _ => by omega
     ·exact range_row2 hfl hfh (((Blk.new w4 40 [.int .i64 x.first, .int .i64 (m0 - 1), .int .i64 x.owner, .int .i64 (x.epoch + 1), .int .i64 m0, .int .i64 x.last, .int .i64 x.owner, .int .i64 (x.epoch + 1)]).alloc _).ext (jb _ _).drew) (by omega)
     ·have hcut := hcut.2 h
      exact (hcut.ext hb6).mono fun q hq _ => by omega
   have hcat : catL [((some ⟨bb, o, none⟩ : Option Addr), c, l.take k), (some ⟨w4.heap.size, 0, none⟩, 2, [⟨x.first, m0 - 1, x.owner, x.epoch + 1⟩, ⟨m0, x.last, x.owner, x.epoch + 1⟩]), (some ⟨bb, o + (k + 1) * 4, none⟩, (c - (k + 1)), l.drop (k + 1))] = (splitR l m0).1 := by
    rw [HF.out]; simp [catL]
   have hz : (((w4.alloc (.cells #[.int .i64 x.first, .int .i64 (m0 - 1), .int .i64 x.owner, .int .i64 (x.epoch + 1), .int .i64 m0, .int .i64 x.last, .int .i64 x.owner, .int .i64 (x.epoch + 1)] 40)).alloc (.cells #[.slice (some ⟨bb, o, none⟩) k c, .slice (some ⟨w4.heap.size, 0, none⟩) 2 2, .slice (some ⟨bb, o + (k + 1) * 4, none⟩) (l.length - (k + 1)) (c - (k + 1))] 51)).drew).heap.size = w4.heap.size + 2 := by simp
   rw [← hz] at hX
   have hlen : (splitR l m0).1.length = l.length + 1 := by
    rw [HF.out]
    simp only [List.length_append, HROW.out.2.2.1, HROW.out.2.2.2.1, List.length_cons, List.length_nil]
    omega
   have CC := concat_any _ _ _ hX (by rw [hcat, hlen]; omega) (by rw [hcat, hlen]; omega) (by simp)
   rw [hcat] at CC
   unfold GotOwn at CC
   clear hX hcat hlen a0 a1 a2 a3 b0 b1 b2 b3
   have HSZ := jh (ja hz hb6)
   clear hz hb6 hb5
   go_wp2_with fail
   refine CC.mono ?_
   clear CC
   rintro e w6 ⟨⟨v6, rfl, ho6⟩, hb7⟩
   have hb8 := HSZ.out.2.tr hb7
   have HO := jh (ja ho6 hb8)
   obtain ⟨A6, c6, rfl, _⟩ := ho6.form
   clear ho6 hb7
   go_wp2_with fail
   (dsimp only [wpList, SegQ]; refine ⟨fun w' => ∃ d : Wd (On w4), w' = d.w, ClsW.mk (hb8), fun _ h => h, ?_⟩; unfold wpMix; simp only [pick, j1, j2, j3, j4]; (repeat (show wpQuiet _ _ _ _ (_ :: _) _; go_big_quiet_step (fail))); refine qn ?_)
   clear hlo hb8
   go_wp2_with fail
   go_ret2
   have hb9 := HB4.out.tr HO.out.2
   refine ⟨⟨_, ?_, HO.out.1.base' (by have := HSZ.out.1; omega)⟩, HB1.out.tr hb9⟩
   rw [show (splitR l m0).2 = 0 from by rw [HF.out]]
   rfl
end Go.Proofs.YtpgocpodhamibaaGreatDoor
namespace Go.Proofs.YtpgocpodhamibaaGreatDoor
open Go.RowKit
set_option maxHeartbeats 800000 in
theorem idxF_Rec (F : FuncId) (caps : List Value) (p : Rec → Bool) (hent : ∀ args w, (callFunc F args).run Tryz.prog w = .ok (.enter F args) w) (A : Option Addr) (c : Nat) (l : List Rec) (P : Nat → Prop) (w : World) (hr : RecR.Row w P A l) (hl : l.length ≤ 9223372036854775807) (hF : Tells RecR aggV F caps P p l w) :
 Calls Tryz.prog 167 #[.slice A l.length c, .func (.func F) #[] caps.toArray] w fun e w' => e = .returned (.int .i64 (idxI p l)) ∧ Below w.heap.size w w' := by
 have HF := jh hF; clear hF
 have HR := jh hr; clear hr
 go_enter Tryz.func167, Tryz.ntmps167
 go_wp2
 go_loopw [5, 8] (fun _ i wr => ∃ k : Nat, k ≤ l.length ∧ i = .int .i64 k ∧ (∀ (j : Nat) (b : Rec), j < k → l[j]? = some b → p b = false) ∧ Below w.heap.size w wr) (fun _ i _ => l.length - (intOf i).toNat)
 case atStart => exact ⟨0, Nat.zero_le _, rfl, fun j b hj => absurd hj (by omega), jb _ _⟩
 case round =>
  obtain ⟨k, hk, rfl, hno, hbl⟩ := hrel
  have HN := jh hno; clear hno
  by_cases hlt : k < l.length
  ·have hlk := List.getElem?_eq_getElem hlt
   generalize l[k] = a at hlk
   obtain ⟨b, o, cs, rfl, hP, hbw, hrep, hcs⟩ := (HR.out.ext hbl).at_ hlk
   have C := HF.out a cs wr (List.mem_of_getElem? hlk) hrep hbl
   have HK := jh hlk; clear hlk
   have hlt' : (k : Int) < l.length := by omega
   obtain ⟨nA, nc, pA, pc, sA, sc, rfl, _⟩ := rec_rep.1 hrep
   have c0 := hcs 0 _ rfl; have c1 := hcs 1 _ rfl; have c2 := hcs 2 _ rfl; have c3 := hcs 3 _ rfl; have c4 := hcs 4 _ rfl; have c5 := hcs 5 _ rfl; have c6 := hcs 6 _ rfl; have c7 := hcs 7 _ rfl; have c8 := hcs 8 _ rfl; have c9 := hcs 9 _ rfl; have c10 := hcs 10 _ rfl; have c11 := hcs 11 _ rfl; have c12 := hcs 12 _ rfl; have c13 := hcs 13 _ rfl; have c14 := hcs 14 _ rfl; have c15 := hcs 15 _ rfl; have c16 := hcs 16 _ rfl; have c17 := hcs 17 _ rfl; simp only [RecR_size, Nat.add_zero] at c0 c1 c2 c3 c4 c5 c6 c7 c8 c9 c10 c11 c12 c13 c14 c15 c16 c17
   dsimp only [aggV, Rec.cells] at C
   clear hcs
   try clear hrep
   have HC := jh C; clear C
   go_wp2_with fail
   refine HC.out.mono ?_
   cases hp : p a with
   | true =>
     have HP := jh hp; clear hp
     rintro e w1 ⟨rfl, hb1⟩
     go_wp2
     go_ret
     exact ⟨ret_int (idxI_some HK.out HP.out HN.out).symm, hbl.tr hb1⟩
   | false =>
     have HP := jh hp; clear hp
     rintro e w1 ⟨rfl, hb1⟩
     go_wp2
     go_round
     case rel =>
      refine ⟨k + 1, by omega, by go_num, fun j x hj hx => ?_, hbl.tr hb1⟩
      by_cases hjk : j < k
      ·exact HN.out j x hjk hx
      ·have : j = k := by omega
       subst this
       have h1 := HK.out
       rw [hx] at h1
       injection h1 with h1
       rw [h1]; exact HP.out
     case measure => simp [intOf]; omega
  ·go_wp2
   go_ret
   refine ⟨ret_int (idxI_none fun j x hx => HN.out j x ?_ hx).symm, hbl⟩
   have := (List.getElem?_eq_some_iff.1 hx).1
   omega
end Go.Proofs.YtpgocpodhamibaaGreatDoor
namespace Go.Proofs.YtpgocpodhamibaaGreatDoor
open Go.RowKit Go.Shelf
set_option maxRecDepth 20000 in
set_option maxHeartbeats 800000 in
theorem icedHas_any (h : Int) (b : Nat) (r : Rec) (nA pA sA : Option Addr) (nc pc sc : Nat) (w : World) (hb : w.cell? ⟨b, 0, none⟩ = some (.int .i64 h)) :
 Calls Tryz.prog 233 #[.agg (r.cells nA nc pA pc sA sc).toArray, .pointer (some ⟨b, 0, none⟩)] w fun e w' => e = .returned (.bool (r.range.has h)) ∧ Below w.heap.size w w' := by
 have hlt := lt_of_cell hb
 have hb1 := (jb w.heap.size w).al (.cells (r.cells nA nc pA pc sA sc).toArray 43)
 have B0 := Blk.new w 43 (r.cells nA nc pA pc sA sc)
 have C1 := fun W => has_any r.range h W
 unfold Range.val at C1
 go_enter Tryz.func233, Tryz.ntmps233
 go_upto_region 1 with fail
 refine forget (M := fun W => Code.wp _ _ _ _ W) (fun W => Below w.heap.size w W ∧ Blk W w.heap.size 43 (r.cells nA nc pA pc sA sc)) ⟨hb1, B0⟩ ?_
 clear B0 hb1
 rintro w1 ⟨hb1, B0⟩
 have x13 : w1.cell? ⟨w.heap.size, 13, none⟩ = some (.int .i64 r.range.first) := B0.cell 13
 have x14 : w1.cell? ⟨w.heap.size, 14, none⟩ = some (.int .i64 r.range.last) := B0.cell 14
 have x15 : w1.cell? ⟨w.heap.size, 15, none⟩ = some (.int .i64 r.range.owner) := B0.cell 15
 have x16 : w1.cell? ⟨w.heap.size, 16, none⟩ = some (.int .i64 r.range.epoch) := B0.cell 16
 have y0 : w1.cell? ⟨b, 0, none⟩ = some (.int .i64 h) := (Below.cell hb1 (p := ⟨b, 0, none⟩) hlt).trans hb
 have HB := jh hb1
 clear B0 hb1 hb
 go_wp2_with fail
 refine (C1 _).mono ?_
 rintro e w2 ⟨rfl, hb2⟩
 have HB2 := jh (HB.out.tr hb2)
 clear hb2
 go_wp2_with fail
 go_ret
 exact ⟨rfl, HB2.out⟩
theorem enters_iced : ∀ args w, (callFunc 233 args).run Tryz.prog w = .ok (.enter 233 args) w := enters_of Tryz.func233 (by kernel_rfl) rfl
set_option maxHeartbeats 1600000 in
theorem iced_any (g : Nat) (s : St) (h : Int) (P : Nat → Prop) (w : World) (hst : StAt w P g s) (hl : s.frozen.length ≤ 1000000) :
 Calls Tryz.prog 155 #[ptrV g, .int .i64 h] w fun e w' => e = .returned (.int .i64 (icedS s h)) ∧ Below w.heap.size w w' := by
 obtain ⟨v, hB, hI⟩ := hst
 obtain ⟨A, c, hv, hc1, hc2, hrow⟩ := hI.frozen
 have hvl : v.frozen = .slice A s.frozen.length c := by injection hv
 have hb0 := (jb w.heap.size w).al (.cells #[.int .i64 h] 3)
 have B0 := Blk.new w 3 [.int .i64 h]
 have y9 : (w.alloc (.cells #[.int .i64 h] 3)).cell? ⟨g, 9, none⟩ = some v.frozen := (hB.ext hb0).cell 9
 rw [hvl] at y9
 have C := idxF_Rec 233 [.pointer (some ⟨w.heap.size, 0, none⟩)] (fun f => f.range.has h) enters_iced A c s.frozen P (w.alloc (.cells #[.int .i64 h] 3)) (hrow.ext hb0) (by omega) (fun a cs W' _ ha hb' => by
  obtain ⟨nA, nc, pA, pc, sA, sc, rfl, _⟩ := rec_rep.1 ha
  exact icedHas_any h w.heap.size a nA pA sA nc pc sc W' ((B0.ext hb').cell 0))
 have HB0 := jh hb0
 clear hB hI hv hvl hrow B0 hb0
 unfold ptrV
 go_enter Tryz.func155, Tryz.ntmps155
 go_wp2_with fail
 refine C.mono ?_
 clear C y9
 rintro e w2 ⟨rfl, hb2⟩
 go_wp2_with fail
 go_ret
 exact ⟨rfl, HB0.out.tr hb2⟩
set_option maxRecDepth 20000 in
set_option maxHeartbeats 3200000 in
theorem ssplit_any (g : Nat) (s : St) (r : Rec) (nA pA sA : Option Addr) (nc pc sc : Nat) (P Q : Nat → Prop) (w : World) (h : StAt w P g s) (hg : ¬ P g) (hS : Fit s)
 (hr : RecAt w Q r nA nc pA pc sA sc) :
 Calls Tryz.prog 77 #[ptrV g, .agg (r.cells nA nc pA pc sA sc).toArray] w (StOut w P g (splitS s r)) := by
 have hgl := h.lt
 have HH := jh (ja h (ja hg hS))
 have hn := hr.n
 clear h hg hS hr
 have hb1 := (jb w.heap.size w).al (.cells (r.cells nA nc pA pc sA sc).toArray 43)
 have B0 := Blk.new w 43 (r.cells nA nc pA pc sA sc)
 have hs1 : (w.alloc (.cells (r.cells nA nc pA pc sA sc).toArray 43)).heap.size = w.heap.size + 1 := by simp
 unfold ptrV
 go_enter Tryz.func77, Tryz.ntmps77
 go_upto_region 1 with fail
 refine forget (M := fun W => Code.wp _ _ _ _ W) (fun W => Below w.heap.size w W ∧ Blk W w.heap.size 43 (r.cells nA nc pA pc sA sc) ∧ W.heap.size = w.heap.size + 1) ⟨hb1, B0, hs1⟩ ?_
 clear B0 hb1 hs1
 rintro w1 ⟨hb1, B0, hs1⟩
 obtain ⟨v, hB, hI⟩ := HH.out.1
 obtain ⟨Ar, cr, hv, hc1, hc2, hrow⟩ := hI.ring
 have hvl : v.ring = .slice Ar s.ring.length cr := by injection hv
 have y4 : w1.cell? ⟨g, 4, none⟩ = some v.ring := (hB.ext hb1).cell 4
 rw [hvl] at y4
 have y4 := On.cell y4
 have z1 := On.cell (B0.cell 1 : w1.cell? ⟨w.heap.size, 1, none⟩ = some (.int .i64 r.n))
 have hq : findR s.ring r.n = ((findR s.ring r.n).1, (findR s.ring r.n).2) := rfl
 have HSP := jh (show splitS s r = (if (findR s.ring r.n).2 = false ∨ (findR s.ring r.n).1.owner ≠ s.self then (s, 8) else if 0 ≤ icedS s r.n ∨ 64 ≤ s.ring.length then (s, 11) else if (splitR s.ring r.n).2 = 0 then ({ s with ring := (splitR s.ring r.n).1 }, 0) else (s, (splitR s.ring r.n).2)) from rfl)
 have CF := jh (fun W (hW : Below w.heap.size w W) => find_any Ar cr s.ring r.n P W (hrow.ext hW) HH.out.2.2.ring)
 generalize findR s.ring r.n = q at *
 have H1 := jh (ja hb1 (ja B0 hs1))
 have HV := jh (ja hB (ja hI (ja hvl (ja hrow hc2))))
 have hcl := hc1
 clear hB hI hv hvl hrow hb1 B0 hs1 hq hc1 hc2
 have hlo := jb w1.heap.size w1
 have CF1 := CF.out
 unfold Found at CF1
 go_cut [5, 6] (fun xv okv wx => ∃ xb : Nat, xv = .pointer (some ⟨xb, 0, none⟩) ∧ okv = .bool q.2 ∧ Blk wx xb 40 q.1.cells ∧ Below w1.heap.size w1 wx ∧ w1.heap.size ≤ xb)
 case first =>
  refine wp_region_mix (.fork [0, 1, 2, 3, 4, 5] 6 (.seg [7, 8, 9] 10 (.seg [] 11 (.leaf [12]))) 10 (.seg [] 6 (.seg [7, 8, 9] 11 (.leaf [12])))) (fun w' => ∃ d : Wd (On w1), w' = d.w) (by kernel_rfl) (by kernel_rfl) (fun _ _ d _ _ h => by cases d <;> exact h) (ClsW.mk hlo.drew) ?_
  unfold wpMix; simp only [pick, j1, j2, j3, j4]
  (repeat (show wpQuiet _ _ _ _ (_ :: _) _; go_big_quiet_step (fail))); refine qn ?_
  constructor
  ·go_wp2_with fail
   refine (CF1 w1.drew (H1.out.1.tr (jb _ w1).drew)).mono ?_
   rintro e w3 ⟨rfl, hb3'⟩
   have hb3 : Below w1.heap.size w1 w3 := (jb _ w1).drew.tr hb3'
   clear hb3'
   go_wp2_with fail
   (dsimp only [wpList, SegQ]; refine ⟨fun w' => ∃ d : Wd (On w1), w' = d.w, ClsW.mk (hb3), fun _ h => h, ?_⟩; unfold wpMix; simp only [pick, j1, j2, j3, j4]; (repeat (show wpQuiet _ _ _ _ (_ :: _) _; go_big_quiet_step (fail))); refine qn ?_)
   go_wp2_with fail
   have hb4 := hb3.al (.cells #[.int .i64 0, .int .i64 0, .int .i64 0, .int .i64 0] 40)
   have hz3 := hb3.size
   (dsimp only [wpList, SegQ]; refine ⟨fun w' => ∃ d : Wd (On w1), w' = d.w, ClsW.mk (hb4), fun _ h => h, ?_⟩; unfold wpMix; simp only [pick, j1, j2, j3, j4]; (repeat (show wpQuiet _ _ _ _ (_ :: _) _; go_big_quiet_step (fail))); refine qn ?_)
   refine wpList_store_new (cs := q.1.cells.toArray) rfl rfl rfl rfl rfl (by kernel_rfl) rfl (by simp [Range.cells, Value.oneCell']) ?_
   have hb5 := hb3.al (.cells q.1.cells.toArray 40)
   (dsimp only [wpList, SegQ]; refine ⟨fun w' => ∃ d : Wd (On w1), w' = d.w, ClsW.mk (hb5), fun _ h => h, ?_⟩; unfold wpMix; simp only [pick, j1, j2, j3, j4]; (repeat (show wpQuiet _ _ _ _ (_ :: _) _; go_big_quiet_step (fail))); refine qn ?_)
   have HZ := jh (ja (Blk.new w3 40 q.1.cells) (ja hb5 hz3))
   go_wp2_with fail
   go_meet
   exact ⟨_, rfl, rfl, HZ.out.1, HZ.out.2.1, HZ.out.2.2⟩
  ·go_wp2_with fail
   have hb4 := ((jb w1.heap.size w1).al (.cells #[.int .i64 0, .int .i64 0, .int .i64 0, .int .i64 0] 40)).drew
   (dsimp only [wpList, SegQ]; refine ⟨fun w' => ∃ d : Wd (On w1), w' = d.w, ClsW.mk (hb4), fun _ h => h, ?_⟩; unfold wpMix; simp only [pick, j1, j2, j3, j4]; (repeat (show wpQuiet _ _ _ _ (_ :: _) _; go_big_quiet_step (fail))); refine qn ?_)
   go_wp2_with fail
   refine (CF1 _ (H1.out.1.tr hb4)).mono ?_
   rintro e w3 ⟨rfl, hb3'⟩
   have BK := ((Blk.new w1 40 [.int .i64 0, .int .i64 0, .int .i64 0, .int .i64 0]).ext (jb _ _).drew).ext hb3'
   have hb5 : Below w1.heap.size w1 w3 := hb4.tr hb3'
   clear hb3'
   go_wp2_with fail
   (dsimp only [wpList, SegQ]; refine ⟨fun w' => ∃ d : Wd (On w1), w' = d.w, ClsW.mk (hb5), fun _ h => h, ?_⟩; unfold wpMix; simp only [pick, j1, j2, j3, j4]; (repeat (show wpQuiet _ _ _ _ (_ :: _) _; go_big_quiet_step (fail))); refine qn ?_)
   refine wpList_store_blk (cs := q.1.cells) rfl rfl rfl rfl rfl BK (by kernel_rfl) rfl (by simp [Range.cells, Value.oneCell']) ?_
   intro w5 hB5 hO5 hz5
   have hb6 := hb5.trans (hO5.low (fun k e => by have e' : k = w1.heap.size := e; omega) hb5.size)
   (dsimp only [wpList, SegQ]; refine ⟨fun w' => ∃ d : Wd (On w1), w' = d.w, ClsW.mk (hb6), fun _ h => h, ?_⟩; unfold wpMix; simp only [pick, j1, j2, j3, j4]; (repeat (show wpQuiet _ _ _ _ (_ :: _) _; go_big_quiet_step (fail))); refine qn ?_)
   have HZ := jh (ja hB5 hb6)
   go_wp2_with fail
   go_meet
   exact ⟨_, rfl, rfl, HZ.out.1, HZ.out.2, Nat.le_refl _⟩
 case rest =>
  clear y4 z1 hlo CF CF1
  obtain ⟨xb, rfl, rfl, hX, hbc, hxb⟩ := hcut
  have hbw := H1.out.1.tr hbc
  have hzc := hbc.size
  have hz1 := H1.out.2.2
  obtain ⟨x, ok⟩ := q
  dsimp only at hX HSP
  cases ok
  ·have HE := jh (ja (HSP.out.trans (if_pos (.inl rfl))) hbw)
   clear hX hbc hbw
   go_wp2_with fail
   go_quiet (fail)
   go_wp2_with fail
   go_ret
   unfold StOut
   rw [HE.out.1]
   obtain ⟨v', a1, a2⟩ := HH.out.1
   exact ⟨rfl, ⟨v', a1.ext (HE.out.2.drewN _), (a2.same (Same.of_below (HE.out.2.drewN _))).mono fun k hk => .inl hk⟩, Only.of_below (HE.out.2.drewN _)⟩
  ·have x2 : wc.cell? ⟨xb, 2, none⟩ = some (.int .i64 x.owner) := hX.cell 2
   have y0 : wc.cell? ⟨g, 0, none⟩ = some (.int .i64 s.self) := (HV.out.1.ext hbw).cell 0
   have HBW := jh (ja hbw hbc)
   clear hX hbc hbw
   by_cases ho : x.owner = s.self
   ·have HOW := jh ho
    have CI := jh (fun W (hW : Below w.heap.size w W) => iced_any g s r.n P W (by obtain ⟨v', a1, a2⟩ := HH.out.1; exact ⟨v', a1.ext hW, a2.same (Same.of_below hW)⟩) HH.out.2.2.frozen)
    rw [ho] at x2
    clear ho
    go_wp2_with fail
    go_quiet (fail)
    clear x2 y0
    have hb4 : Below w.heap.size w (wc.drewN nq) := HBW.out.1.drewN _
    have z1 : (wc.drewN nq).cell? ⟨w.heap.size, 1, none⟩ = some (.int .i64 r.n) := (H1.out.2.1.ext (HBW.out.2.drewN _)).cell 1
    generalize hw4 : wc.drewN nq = w4 at *
    have HB4 := jh (ja hb4 (show Below w1.heap.size w1 w4 from hw4 ▸ HBW.out.2.drewN _))
    have CI4 := CI.out w4 hb4
    unfold ptrV at CI4
    clear hb4 hw4 CI
    go_wp2_with fail
    refine CI4.mono ?_
    clear CI4 z1
    rintro e w5 ⟨rfl, hb5'⟩
    have hb5 : Below w.heap.size w w5 := HB4.out.1.tr hb5'
    have y4 : w5.cell? ⟨g, 4, none⟩ = some v.ring := (HV.out.1.ext hb5).cell 4
    rw [HV.out.2.2.1] at y4
    have z1 : w5.cell? ⟨w.heap.size, 1, none⟩ = some (.int .i64 r.n) := (H1.out.2.1.ext (HB4.out.2.tr hb5')).cell 1
    have HB5 := jh hb5
    clear hb5 hb5'
    by_cases hi : 0 ≤ icedS s r.n
    ·have HE := jh (HSP.out.trans ((if_neg (by simp [HOW.out])).trans (if_pos (.inl hi))))
     clear z1 y4
     generalize icedS s r.n = ic at *
     go_wp2_with fail
     go_ret
     unfold StOut
     rw [HE.out]
     obtain ⟨v', a1, a2⟩ := HH.out.1
     exact ⟨rfl, ⟨v', a1.ext HB5.out, (a2.same (Same.of_below HB5.out)).mono fun k hk => .inl hk⟩, Only.of_below HB5.out⟩
    ·by_cases h64 : 64 ≤ s.ring.length
     ·have HE := jh (HSP.out.trans ((if_neg (by simp [HOW.out])).trans (if_pos (.inr h64))))
      have h64' : (64 : Int) ≤ s.ring.length := by omega
      generalize icedS s r.n = ic at *
      clear z1
      go_wp2_with fail
      go_ret
      unfold StOut
      rw [HE.out]
      obtain ⟨v', a1, a2⟩ := HH.out.1
      exact ⟨rfl, ⟨v', a1.ext HB5.out, (a2.same (Same.of_below HB5.out)).mono fun k hk => .inl hk⟩, Only.of_below HB5.out⟩
     ·have HE := jh (HSP.out.trans ((if_neg (by simp [HOW.out])).trans (if_neg (by simp [hi, h64]))))
      have h64' : (s.ring.length : Int) < 64 := by omega
      have h64n : ¬ ((64 : Int) ≤ s.ring.length) := by omega
      generalize icedS s r.n = ic at *
      go_upto_region 6 with fail
      have u4 := On.cell y4
      have u1 := On.cell z1
      have hlo := jb w5.heap.size w5
      clear y4 z1
      refine wp_region_mix (.seg [0, 1, 2, 3, 4, 5] 6 (.leaf [7, 8, 9, 10, 11])) (fun w' => ∃ d : Wd (On w5), w' = d.w) (by kernel_rfl) (by kernel_rfl) (fun _ _ d _ _ h => by cases d <;> exact h) (ClsW.mk hlo.drew) ?_
      unfold wpMix; simp only [pick, j1, j2, j3, j4]
      (repeat (show wpQuiet _ _ _ _ (_ :: _) _; go_big_quiet_step (fail))); refine qn ?_
      have CS := split_any Ar cr s.ring r.n P w5.drew (HV.out.2.2.2.1.ext HB5.out.drew) ⟨hcl, HV.out.2.2.2.2⟩ (by omega)
      unfold GotSplit at CS
      generalize splitR s.ring r.n = sp at *
      obtain ⟨l', code⟩ := sp
      dsimp only at CS HE
      go_wp2_with fail
      refine CS.mono ?_
      clear CS
      rintro e w6 ⟨⟨v6, rfl, ho6⟩, hb6'⟩
      have hb6 : Below w5.heap.size w5 w6 := hlo.drew.tr hb6'
      obtain ⟨A6, c6, hv6, hc6, hc7⟩ := ho6.form
      subst hv6
      have H6 := jh (ja ho6 (ja hc6 hc7))
      have HB6 := jh (HB5.out.tr hb6)
      clear ho6 hb6' hc6 hc7
      go_wp2_with fail
      (dsimp only [wpList, SegQ]; refine ⟨fun w' => ∃ d : Wd (On w5), w' = d.w, ClsW.mk (hb6), fun _ h => h, ?_⟩; unfold wpMix; simp only [pick, j1, j2, j3, j4]; (repeat (show wpQuiet _ _ _ _ (_ :: _) _; go_big_quiet_step (fail))); refine qn ?_)
      clear u4 u1 hb6 hlo
      have y4 : w6.cell? ⟨g, 4, none⟩ = some v.ring := (HV.out.1.ext HB6.out).cell 4
      have f4 := (HV.out.1.ext HB6.out).frozen 4
      by_cases hcode : code = 0
      ·subst hcode
       go_wp2_with fail
       go_ret
       unfold StOut
       rw [HE.out]
       have hI6 := HV.out.2.1.same (Same.of_below HB6.out)
       have hO : Only (· = g) w6 (w6.setCell ⟨g, 4, none⟩ (.slice A6 l'.length c6)) := Only.set_ (F := (· = g)) rfl _
       have hI7 := (hI6.same (Same.of_only hO fun k hk e => HH.out.2.1 (e ▸ hk))).mono (Q := fun k => P k ∨ w.heap.size ≤ k) fun k hk => .inl hk
       refine ⟨rfl, ⟨{ v with ring := .slice A6 l'.length c6 }, (HV.out.1.ext HB6.out).set_ 4 _, { hI7 with ring := ⟨A6, c6, rfl, H6.out.2.1, H6.out.2.2, ?_⟩ }⟩, (Only.of_below HB6.out).tr hO⟩
       refine (H6.out.1.row' range_plain (P := fun k => w.heap.size ≤ k ∧ k ≠ g) fun q hq => ?_).same (Same.of_only hO fun k hk e => hk.2 e) hO.size |>.mono fun k hk _ => .inr hk.1
       have h1 := (H6.out.1.lt q hq).1
       have h2 := HB5.out.size
       have h3 : w5.drew.heap.size = w5.heap.size := rfl
       omega
      ·have hc0 : (code == 0) = false := beq_eq_false_iff_ne.2 hcode
       have HE2 := jh (HE.out.trans (if_neg hcode))
       clear hcode
       go_wp2_with fail
       go_ret
       unfold StOut
       rw [HE2.out]
       obtain ⟨v', a1, a2⟩ := HH.out.1
       exact ⟨rfl, ⟨v', a1.ext HB6.out, (a2.same (Same.of_below HB6.out)).mono fun k hk => .inl hk⟩, Only.of_below HB6.out⟩
   ·have hne : (x.owner == s.self) = false := beq_eq_false_iff_ne.2 ho
    have HE := jh (HSP.out.trans (if_pos (.inr ho)))
    clear ho
    go_wp2_with fail
    go_quiet (fail)
    go_wp2_with fail
    go_ret
    unfold StOut
    rw [HE.out]
    obtain ⟨v', a1, a2⟩ := HH.out.1
    exact ⟨rfl, ⟨v', a1.ext (HBW.out.1.drewN _), (a2.same (Same.of_below (HBW.out.1.drewN _))).mono fun k hk => .inl hk⟩, Only.of_below (HBW.out.1.drewN _)⟩
end Go.Proofs.YtpgocpodhamibaaGreatDoor
namespace Go.Proofs.YtpgocpodhamibaaGreatDoor
open Go.RowKit
def GotSum (a : Int) (l : List Int) (e : Ending) : Prop := ∃ n : Int, e = .returned (.int .i64 n) ∧ 0 ≤ n ∧ n ≤ 1099511627776 ∧ (n < 1099511627776 → n = a + l.sum)
theorem sum_mono {l : List Int} (h : ∀ x ∈ l, 0 ≤ x) (k : Nat) : (l.take k).sum ≤ l.sum := by
 induction l generalizing k with
 | nil => simp
 | cons x l ih =>
   cases k with
   | zero =>
     have := ih (fun y hy => h y (List.mem_cons_of_mem _ hy)) 0
     have := h x (List.mem_cons_self ..)
     simp at *
     omega
   | succ k =>
     have := ih (fun y hy => h y (List.mem_cons_of_mem _ hy)) k
     simp
     omega
set_option maxRecDepth 20000 in
set_option maxHeartbeats 800000 in
theorem sum_any (a : Int) (l : List Int) (b : Nat) (w : World) (hb : Blk w b 3 (l.map fun n => .int .i64 n)) (ha : 0 ≤ a ∧ a ≤ 1099511627776) (hl : ∀ x ∈ l, 0 ≤ x) (hlen : l.length ≤ 1000000) :
 Calls Tryz.prog 54 #[.int .i64 a, .slice (some ⟨b, 0, none⟩) l.length l.length] w fun e w' => GotSum a l e ∧ w = w' := by
 have HB := jh (ja hb hl); clear hb hl
 obtain ⟨ha0, ha1⟩ := ha
 go_enter Tryz.func54, Tryz.ntmps54
 go_wp2
 go_loopw [0, 5] (fun x i wr => ∃ (k : Nat) (n : Int), k ≤ l.length ∧ i = .int .i64 k ∧ x = .int .i64 n ∧ 0 ≤ n ∧ n ≤ 1099511627776 ∧ n = a + (l.take k).sum ∧ wr = w) (fun _ i _ => l.length - (intOf i).toNat)
 case atStart => exact ⟨0, a, Nat.zero_le _, rfl, rfl, ha0, ha1, by simp, rfl⟩
 case round =>
  obtain ⟨k, n, hkl, rfl, rfl, hn0, hn1, hs, rfl⟩ := hrel
  have HS := jh hs; clear hs
  by_cases hlt : k < l.length
  ·have hlk := List.getElem?_eq_getElem hlt
   have hts := take_snoc l k hlt
   have hx := HB.out.2 l[k] (List.getElem_mem hlt)
   have y0 : wr.cell? ⟨b, k, none⟩ = some (.int .i64 l[k]) := by rw [HB.out.1.cell, List.getElem?_map, hlk]; rfl
   generalize l[k] = x at *
   have HTS := jh (ja hts hlk); clear hts hlk
   have hlt' : (k : Int) < l.length := by omega
   by_cases h1 : 1099511627776 - n < x
   ·go_wp2_with fail
    go_ret
    exact ⟨⟨1099511627776, rfl, by omega, by omega, fun h => absurd h (by omega)⟩, rfl⟩
   ·go_wp2_with fail
    go_round
    case rel =>
     refine ⟨k + 1, n + x, by omega, by go_num, rfl, by omega, by omega, ?_, trivial⟩
     have h := HS.out
     rw [HTS.out.1, List.sum_append]
     simp only [List.sum_cons, List.sum_nil]
     omega
    case measure => (simp [intOf]; omega)
  ·have hkn : k = l.length := by omega
   subst hkn
   go_wp2_with fail
   go_ret
   exact ⟨⟨n, rfl, hn0, hn1, fun _ => by have := HS.out; rwa [List.take_length] at this⟩, rfl⟩
def lenL (l : List Str) : Int := l.length + (l.map fun s => (s.size : Int)).sum
def GotTot (l : List Str) (m : Int) (e : Ending) : Prop := ∃ n : Int, e = .returned (.int .i64 n) ∧ 0 ≤ n ∧ n ≤ 1099511627776 ∧ (n ≤ m → n = lenL l)
set_option maxRecDepth 20000 in
set_option maxHeartbeats 800000 in
theorem total_any (l : List Str) (A : Option Addr) (c : Nat) (m : Int) (P : Nat → Prop) (w : World) (hr : StrR.Row w P A l) (hm : 0 ≤ m ∧ m ≤ 1000000) :
 Calls Tryz.prog 86 #[.slice A l.length c, .int .i64 m] w fun e w' => GotTot l m e ∧ Below w.heap.size w w' := by
 have HR := jh hr; clear hr
 obtain ⟨hm0, hm1⟩ := hm
 have hb1 := (jb w.heap.size w).al (.cells #[.int .i64 l.length] 3)
 have C1 := sum_any 0 [(l.length : Int)] w.heap.size (w.alloc (.cells #[.int .i64 l.length] 3)) (Blk.new w 3 [.int .i64 l.length]) ⟨by omega, by omega⟩ (by simp) (by simp)
 go_enter Tryz.func86, Tryz.ntmps86
 go_wp2_with fail
 refine C1.mono ?_
 clear C1
 rintro e w1 ⟨⟨n, rfl, hn0, hn1, hn⟩, rfl⟩
 have HN := jh hn; clear hn
 go_wp2_with fail
 have hlm : n ≤ m → (l.length : Int) ≤ m := fun h => by have := HN.out (by omega); simp at this; omega
 generalize hw1 : (w.alloc (.cells #[.int .i64 l.length] 3)) = w1 at *
 clear hw1
 have HL := jh hlm; clear hlm
 go_loopw [5, 6] (fun x i wr => ∃ (k : Nat) (n : Int), k ≤ l.length ∧ i = .int .i64 k ∧ x = .int .i64 n ∧ 0 ≤ n ∧ n ≤ 1099511627776 ∧ (n ≤ m → n = l.length + ((l.take k).map fun s => (s.size : Int)).sum) ∧ (n ≤ m → (l.length : Int) ≤ m) ∧ Below w.heap.size w wr) (fun _ i _ => l.length - (intOf i).toNat)
 case atStart => exact ⟨0, n, Nat.zero_le _, rfl, rfl, hn0, hn1, fun h => by have := HN.out (by omega); simpa using this, HL.out, hb1⟩
 case round =>
  obtain ⟨k, n, hkl, rfl, rfl, hn0, hn1, hs, hlm, hbl⟩ := hrel
  have HS := jh (ja hs hlm); clear hs hlm HN HL hb1
  by_cases hlt : k < l.length
  ·have hlt' : (k : Int) < l.length := by omega
   by_cases hnm : n ≤ m
   ·have hlk := List.getElem?_eq_getElem hlt
    have hts := take_snoc l k hlt
    obtain ⟨bb, o, cs, rfl, hP, hbw, ⟨rfl, hi1⟩, hcs⟩ := (HR.out.same (Same.of_below hbl) hbl.size).at_ hlk
    generalize l[k] = x at *
    have c0 := hcs 0 _ rfl; simp only [StrR_size, Nat.add_zero, Nat.mul_one] at c0
    have hlm := HS.out.2 hnm
    have HTS := jh (ja hts (ja hlk hcs)); clear hts hlk hcs
    have hb2 := hbl.tr ((jb wr.heap.size wr).al (.cells #[.int .i64 (x.size : Int)] 3))
    have C2 := sum_any n [(x.size : Int)] wr.heap.size (wr.alloc (.cells #[.int .i64 (x.size : Int)] 3)) (Blk.new wr 3 [.int .i64 (x.size : Int)]) ⟨by omega, by omega⟩ (by simp) (by simp)
    have HB2 := jh hb2
    clear hbl hb2
    go_wp2_with fail
    refine C2.mono ?_
    clear C2
    rintro e w2 ⟨⟨n2, rfl, hn20, hn21, hn2⟩, rfl⟩
    have HN2 := jh hn2; clear hn2
    go_wp2_with fail
    go_round
    case rel =>
     refine ⟨k + 1, n2, by omega, by simp, rfl, hn20, hn21, fun h => ?_, fun _ => hlm, HB2.out⟩
     have h1 := HN2.out (by omega)
     have h2 := HS.out.1 hnm
     rw [HTS.out.1, List.map_append, List.sum_append]
     simp only [List.sum_cons, List.sum_nil, List.map_cons, List.map_nil] at h1 ⊢
     omega
    case measure => (simp [intOf]; omega)
   ·have HB := jh hbl
    clear hbl
    go_wp2_with fail
    go_ret
    exact ⟨⟨n, rfl, hn0, hn1, fun h => absurd h (by omega)⟩, HB.out⟩
  ·have hkn : k = l.length := by omega
   subst hkn
   have HB := jh hbl
   clear hbl
   go_wp2_with fail
   all_goals
    go_ret
    exact ⟨⟨n, rfl, hn0, hn1, fun h => by have := HS.out.1 h; rwa [List.take_length] at this⟩, HB.out⟩
def sizeP (p : Put) : Int := p.stream.size + lenL p.data
def sizeB (b : Batch) : Int := b.key.size + b.puts.length + (b.puts.map sizeP).sum
def GotSize (n m : Int) (e : Ending) : Prop := ∃ k : Int, e = .returned (.int .i64 k) ∧ 0 ≤ k ∧ k ≤ 1099511627776 ∧ (k ≤ m → k = n)
set_option maxRecDepth 20000 in
set_option maxHeartbeats 1600000 in
theorem sizeB_any (b : Batch) (A : Option Addr) (c : Nat) (m : Int) (P : Nat → Prop) (w : World) (hr : PutR.Row w P A b.puts) (hk : sfit b.key) (hm : 0 ≤ m ∧ m ≤ 1000000) :
 Calls Tryz.prog 27 #[.agg #[.string b.key, .slice A b.puts.length c], .int .i64 m] w fun e w' => GotSize (sizeB b) m e ∧ Below w.heap.size w w' := by
 have HR := jh hr; clear hr
 have hk0 : (b.key.size : Int) ≤ 9223372036854775807 := by unfold sfit at hk; omega
 clear hk
 obtain ⟨hm0, hm1⟩ := hm
 have B0 := Blk.new w 32 [.string b.key, .slice A b.puts.length c]
 have hb0 := (jb w.heap.size w).al (.cells #[.string b.key, .slice A b.puts.length c] 32)
 have x0 := B0.cell 0
 have x1 := B0.cell 1
 have HB0 := jh (ja B0 hb0)
 clear B0 hb0
 go_enter Tryz.func27, Tryz.ntmps27
 go_upto_region 1 with fail
 generalize hw0 : (w.alloc (.cells #[.string b.key, .slice A b.puts.length c] 32)) = w0 at *
 clear hw0
 have C1 := sum_any 0 [(b.key.size : Int), (b.puts.length : Int)] w0.heap.size (w0.alloc (.cells #[.int .i64 b.key.size, .int .i64 b.puts.length] 3)) (Blk.new w0 3 [.int .i64 b.key.size, .int .i64 b.puts.length]) ⟨by omega, by omega⟩ (by simp) (by simp)
 have hb1 := (jb w0.heap.size w0).al (.cells #[.int .i64 b.key.size, .int .i64 b.puts.length] 3)
 go_wp2_with fail
 refine C1.mono ?_
 clear C1
 rintro e w1 ⟨⟨n, rfl, hn0, hn1, hn⟩, rfl⟩
 have HN := jh (ja hn hb1); clear hn hb1
 have hlm : n ≤ m → (b.puts.length : Int) ≤ m := fun h => by have := HN.out.1 (by omega); simp only [List.sum_cons, List.sum_nil] at this; omega
 have HL := jh hlm; clear hlm
 go_wp2_with fail
 generalize hw1 : (w0.alloc (.cells #[.int .i64 b.key.size, .int .i64 b.puts.length] 3)) = w1 at *
 clear hw1 x0 x1
 go_loopw [5, 6] (fun x i wr => ∃ (k : Nat) (n : Int), k ≤ b.puts.length ∧ i = .int .i64 k ∧ x = .int .i64 n ∧ 0 ≤ n ∧ n ≤ 1099511627776 ∧ (n ≤ m → n = b.key.size + b.puts.length + ((b.puts.take k).map sizeP).sum) ∧ (n ≤ m → (b.puts.length : Int) ≤ m) ∧ Below w0.heap.size w0 wr) (fun _ i _ => b.puts.length - (intOf i).toNat)
 case atStart => exact ⟨0, n, Nat.zero_le _, rfl, rfl, hn0, hn1, fun h => by have := HN.out.1 (by omega); simpa [Int.add_assoc] using this, HL.out, HN.out.2⟩
 case round =>
  obtain ⟨k, n, hkl, rfl, rfl, hn0, hn1, hs, hlm, hbl⟩ := hrel
  have HS := jh (ja hs hlm); clear hs hlm HN HL
  have x1 : wr.cell? ⟨w.heap.size, 1, none⟩ = some (.slice A b.puts.length c) := (HB0.out.1.ext hbl).cell 1
  have hb2 := HB0.out.2.tr hbl
  by_cases hlt : k < b.puts.length
  ·have hlt' : (k : Int) < b.puts.length := by omega
   by_cases hnm : n ≤ m
   ·have hlk := List.getElem?_eq_getElem hlt
    have hts := take_snoc b.puts k hlt
    obtain ⟨bb, o, cs, rfl, hP, hbw, hrep, hcs⟩ := (HR.out.same (Same.of_below hb2) hb2.size).at_ hlk
    generalize b.puts[k] = p at *
    obtain ⟨Ad, cd, rfl, hps, _, hd1, hd2, hrow⟩ := put_rep.1 hrep
    have c0 := hcs 0 _ rfl; have c1 := hcs 1 _ rfl; have c2 := hcs 2 _ rfl; simp only [PutR_size, Nat.add_zero] at c0 c1 c2
    have hlm := HS.out.2 hnm
    have hps' : (p.stream.size : Int) ≤ 9223372036854775807 := by unfold sfit at hps; omega
    have HTS := jh (ja hts (ja hlk hcs)); clear hts hlk hcs hrep hps
    have hlo := jb wr.heap.size wr
    have HBL := jh (ja hbl hb2)
    have y1 := On.cell x1
    have y0 := On.cell c0
    have y2 := On.cell c2
    have HRW := jh hrow
    clear hbl hb2 hrow c0 c1 c2
    go_upto_region 5 with fail
    clear x1
    refine wp_region_mix (.seg [0, 1, 2, 3, 4, 5, 6, 7, 8, 9, 10, 11, 12, 13, 14] 15 (.seg [] 16 (.seg [] 17 (.leaf [18])))) (fun w' => ∃ d : Wd (On wr), w' = d.w) (by kernel_rfl) (by kernel_rfl) (fun _ _ d _ _ h => by cases d <;> exact h) (ClsW.mk hlo.drew) ?_
    unfold wpMix; simp only [pick, j1, j2, j3, j4]
    (repeat (show wpQuiet _ _ _ _ (_ :: _) _; go_big_quiet_step (fail))); refine qn ?_
    go_wp2_with fail
    refine (total_any p.data Ad cd m _ wr.drew (HRW.out.ext (jb _ wr).drew) ⟨hm0, hm1⟩).mono ?_
    rintro e w2 ⟨⟨t, rfl, ht0, ht1, ht⟩, hb3'⟩
    have hb3 : Below wr.heap.size wr w2 := (jb _ wr).drew.tr hb3'
    have HT := jh ht
    clear ht hb3'
    go_wp2_with fail
    (dsimp only [wpList, SegQ]; refine ⟨fun w' => ∃ d : Wd (On wr), w' = d.w, ClsW.mk (hb3), fun _ h => h, ?_⟩; unfold wpMix; simp only [pick, j1, j2, j3, j4]; (repeat (show wpQuiet _ _ _ _ (_ :: _) _; go_big_quiet_step (fail))); refine qn ?_)
    have hb4 := hb3.al (.cells #[.int .i64 (p.stream.size : Int), .int .i64 t] 3)
    have C2 := sum_any n [(p.stream.size : Int), t] w2.heap.size (w2.alloc (.cells #[.int .i64 (p.stream.size : Int), .int .i64 t] 3)) (Blk.new w2 3 [.int .i64 (p.stream.size : Int), .int .i64 t]) ⟨by omega, by omega⟩ (by simp; omega) (by simp)
    go_wp2_with fail
    (dsimp only [wpList, SegQ]; refine ⟨fun w' => ∃ d : Wd (On wr), w' = d.w, ClsW.mk (hb4), fun _ h => h, ?_⟩; unfold wpMix; simp only [pick, j1, j2, j3, j4]; (repeat (show wpQuiet _ _ _ _ (_ :: _) _; go_big_quiet_step (fail))); refine qn ?_)
    generalize hw3 : (w2.alloc (.cells #[.int .i64 (p.stream.size : Int), .int .i64 t] 3)) = w3 at *
    clear hw3
    go_wp2_with fail
    refine C2.mono ?_
    clear C2
    rintro e w4 ⟨⟨n2, rfl, hn20, hn21, hn2⟩, rfl⟩
    have HN2 := jh hn2
    have HB4 := jh (HBL.out.1.tr hb4)
    clear hn2
    go_wp2_with fail
    (dsimp only [wpList, SegQ]; refine ⟨fun w' => ∃ d : Wd (On wr), w' = d.w, ClsW.mk (hb4), fun _ h => h, ?_⟩; unfold wpMix; simp only [pick, j1, j2, j3, j4]; (repeat (show wpQuiet _ _ _ _ (_ :: _) _; go_big_quiet_step (fail))); refine qn ?_)
    clear y0 y1 y2 hb4 hb3 hlo
    go_wp2_with fail
    go_round
    case rel =>
     refine ⟨k + 1, n2, by omega, by simp, rfl, hn20, hn21, fun h => ?_, fun _ => hlm, HB4.out⟩
     have h1 := HN2.out (by omega)
     have h2 := HS.out.1 hnm
     simp only [List.sum_cons, List.sum_nil] at h1
     have h3 := HT.out (by omega)
     rw [HTS.out.1, List.map_append, List.sum_append]
     simp only [List.sum_cons, List.sum_nil, List.map_cons, List.map_nil, sizeP]
     omega
    case measure => (simp [intOf]; omega)
   ·have HB := jh (ja hbl hb2)
    clear hbl hb2
    go_wp2_with fail
    go_ret
    exact ⟨⟨n, rfl, hn0, hn1, fun h => absurd h (by omega)⟩, HB.out.2⟩
  ·have hkn : k = b.puts.length := by omega
   subst hkn
   have HB := jh (ja hbl hb2)
   clear hbl hb2
   go_wp2_with fail
   all_goals
    go_ret
    exact ⟨⟨n, rfl, hn0, hn1, fun h => by have := HS.out.1 h; rwa [List.take_length] at this⟩, HB.out.2⟩
end Go.Proofs.YtpgocpodhamibaaGreatDoor
