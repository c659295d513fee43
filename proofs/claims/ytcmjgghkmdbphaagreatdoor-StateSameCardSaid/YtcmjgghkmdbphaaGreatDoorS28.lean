/- What a record costs a state, closer: one that fails its check costs nothing. What a state keeps of outcomes stays small. The reference's SameEvents, SameRanges, SameStreams of equal lists. state.Held of any state: what is held, in some order. state.Outcomes of any state, in some order. A struct out of a row, read among a drawn region's heads. -/
import Derived.Test.YtcmjgghkmdbphaaGreatDoorS24
import Derived.Test.YtcmjgghkmdbphaaGreatDoorS27
import Derived.Test.YtcmjgghkmdbphaaGreatDoorS25
import Derived.Test.YtcmjgghkmdbphaaGreatDoorS10
import Derived.Test.YtcmjgghkmdbphaaGreatDoorS13
import Derived.Laws.StructEq
import Derived.Test.YtcmjgghkmdbphaaGreatDoorS19
import Derived.Test.YtcmjgghkmdbphaaGreatDoorS20
import Derived.Test.YtcmjgghkmdbphaaGreatDoorS09
set_option maxRecDepth 20000
set_option maxHeartbeats 25600000
namespace Go.Proofs.YtcmjgghkmdbphaaGreatDoor
open Go.RowKit
def costE (r : Rec) : Nat := if checkR r = 0 then costR r else 0
theorem spare_plain {r : Rec} (h : checkR r = 0) : (r.kind ≠ 3 → r.kind ≠ 4 → r.batch.puts = []) ∧ (r.kind ≠ 10 → r.streams = []) := by
 have hk := checkR_kind h
 obtain ⟨_, h2, _, _⟩ := checkR_iff.1 h
 have hcase : r.kind = 1 ∨ r.kind = 2 ∨ r.kind = 3 ∨ r.kind = 4 ∨ r.kind = 5 ∨ r.kind = 6 ∨ r.kind = 7 ∨ r.kind = 8 ∨ r.kind = 9 ∨ r.kind = 10 ∨ r.kind = 11 := by omega
 rcases hcase with k | k | k | k | k | k | k | k | k | k | k
 all_goals
  rw [k] at h2
  simp [spareB, fieldsF] at h2
  rw [k]
  exact ⟨by simp [h2], by simp [h2]⟩
theorem costR_zero {r : Rec} (h : checkR r = 0) (h3 : r.kind ≠ 3) (h4 : r.kind ≠ 4) (h10 : r.kind ≠ 10) : costR r = 0 := by
 obtain ⟨a, b⟩ := spare_plain h
 unfold costR
 rw [a h3 h4, b h10]; rfl
theorem apply_invE {s : St} {N : Nat} {r : Rec} (h : Inv s N) (hN : N ≤ 1000000) : Inv (applyS s r).1 (N + costE r) := by
 unfold costE
 by_cases hc : checkR r = 0
 ·rw [if_pos hc]; exact apply_inv h hN
 ·rw [if_neg hc]
  unfold applyS
  rw [if_pos hc]; exact h
theorem ne_size {s : Str} (h : s.toList.isEmpty = false) : 1 ≤ (s.size : Int) := by
 have h3 : s.size ≠ 0 := by
  intro e
  rw [ByteArray.toList_eq] at h
  obtain ⟨⟨l⟩⟩ := s
  have : l.length = 0 := e
  simp [List.eq_nil_of_length_eq_zero this] at h
 omega
theorem name_pos {s : Str} (h : nameB s = true) : 1 ≤ (s.size : Int) := by
 unfold nameB at h
 rw [Bool.and_eq_true] at h
 exact ne_size (by simpa using h.1)
theorem puts_cost : ∀ (l : List Put), (∀ p ∈ l, p.data.length ≤ 20 ∧ nameB p.stream = true) → 11 * (sumD l : Int) ≤ 10 * (l.length + (l.map sizeP).sum)
 | [], _ => by simp [sumD]
 | p :: l, h => by
   have ih := puts_cost l fun q hq => h q (by simp [hq])
   obtain ⟨h1, h2⟩ := h p (by simp)
   have h3 := name_pos h2
   have h4 : (p.data.length : Int) ≤ lenL p.data := by
    unfold lenL
    have := sum_mono (l := p.data.map fun s => (s.size : Int)) (by simp) 0
    simp only [List.take_zero, List.sum_nil] at this
    omega
   have e1 : sumD (p :: l) = p.data.length + sumD l := by simp [sumD]
   have e2 : ((p :: l).map sizeP).sum = sizeP p + (l.map sizeP).sum := by simp
   rw [e1, e2, List.length_cons]
   have e3 : sizeP p = p.stream.size + lenL p.data := rfl
   rw [e3]
   omega
theorem events_cost (n : Str) : ∀ (l : List Event), (∀ e ∈ l, nameB e.stream = true) → (l.length : Int) ≤ (l.map sizeE).sum
 | [], _ => by simp
 | e :: l, h => by
   have ih := events_cost n l fun q hq => h q (by simp [hq])
   have h1 := name_pos (h e (by simp))
   have e2 : ((e :: l).map sizeE).sum = sizeE e + (l.map sizeE).sum := by simp
   rw [e2, List.length_cons]
   have e3 : sizeE e = e.stream.size + e.data.size := rfl
   rw [e3]
   omega
theorem keys_cost : ∀ (l : List Known), (∀ k ∈ l, k.key.toList.isEmpty = false) → (l.length : Int) ≤ sizeKs l
 | [], _ => by simp [sizeKs]
 | k :: l, h => by
   have ih := keys_cost l fun q hq => h q (by simp [hq])
   have h1 := ne_size (h k (by simp))
   have e2 : sizeKs (k :: l) = k.key.size + sizeKs l := by simp [sizeKs]
   rw [e2, List.length_cons]
   omega
theorem stream_cost {s : Stream} (h : streamB s = true) : 2 * (streamN s : Int) ≤ 1 + sizeS s := by
 unfold streamB at h
 simp only [Bool.and_eq_true, List.all_eq_true] at h
 have h1 := name_pos h.1
 have h2 := events_cost s.name s.events fun e he => (eventB_iff.1 (by have := h.2.1 e he; unfold okE at this; rw [Bool.and_eq_true] at this; exact this.1)).1
 have h3 := keys_cost s.keys fun k hk => (knownB_iff.1 (h.2.2 k hk)).1
 unfold streamN sizeS sizeEs
 omega
theorem streams_cost : ∀ (l : List Stream), l.all streamB = true → 2 * (((l.map streamN).sum : Nat) : Int) ≤ sizeSs l
 | [], _ => by simp [sizeSs]
 | s :: l, h => by
   rw [List.all_cons, Bool.and_eq_true] at h
   have ih := streams_cost l h.2
   have h1 := stream_cost h.1
   have e1 : ((s :: l).map streamN).sum = streamN s + (l.map streamN).sum := by simp
   have e2 : sizeSs (s :: l) = 1 + sizeS s + sizeSs l := by simp [sizeSs]; omega
   rw [e1, e2]
   omega
theorem costE_size (r : Rec) : 11 * (costE r : Int) ≤ 10 * sizeR r := by
 have hb := sizeR_bd r
 unfold costE
 by_cases hc : checkR r = 0
 ·rw [if_pos hc]
  have hsp := spare_plain hc
  have hs0 := sizeSs_bd r.streams
  have hb0 := sizeB_sum r.batch
  have hsz : sizeR r = sizeB r.batch + sizeSs r.streams + r.nodes.length := rfl
  have hcr : costR r = sumD r.batch.puts + (r.streams.map streamN).sum := rfl
  have p1 : (0 : Int) ≤ (sumD r.batch.puts : Int) := Int.natCast_nonneg _
  have p2 : (0 : Int) ≤ (((r.streams.map streamN).sum : Nat) : Int) := Int.natCast_nonneg _
  by_cases h34 : r.kind = 3 ∨ r.kind = 4
  ·have hg := checkB_good (checkR_batch hc h34).1
   have h1 := puts_cost r.batch.puts fun p hp => ⟨(hg.puts p hp).1.1, (hg.puts p hp).2.1⟩
   have h2 := hsp.2 (by omega)
   have e0 : (((r.streams.map streamN).sum : Nat) : Int) = 0 := by rw [h2]; rfl
   have e1 : sizeB r.batch = r.batch.key.size + r.batch.puts.length + (r.batch.puts.map sizeP).sum := rfl
   rw [hcr, hsz]
   omega
  ·by_cases h10 : r.kind = 10
   ·have h2 := hsp.1 (by omega) (by omega)
    obtain ⟨_, _, _, hl⟩ := checkR_iff.1 hc
    rw [h10] at hl
    simp [listsBad, fieldsF] at hl
    have h1 := streams_cost r.streams (by rw [List.all_eq_true]; exact fun s hs => hl.2 s hs)
    have e0 : (sumD r.batch.puts : Int) = 0 := by rw [h2]; rfl
    rw [hcr, hsz]
    omega
   ·rw [costR_zero hc (by omega) (by omega) h10]
    omega
 ·rw [if_neg hc]; omega
def costEL (l : List Rec) : Nat := (l.map costE).sum
theorem costEL_take {l : List Rec} {k : Nat} (h : k < l.length) : costEL (l.take (k + 1)) = costEL (l.take k) + costE l[k] := by
 rw [take_snoc l k h]; unfold costEL; rw [List.map_append, List.sum_append]; simp
theorem costEL_tk (l : List Rec) (k : Nat) : costEL (l.take k) ≤ costEL l := by
 have h : costEL l = costEL (l.take k) + costEL (l.drop k) := by
  conv => lhs; rw [← List.take_append_drop k l]
  unfold costEL; rw [List.map_append, List.sum_append]
 omega
theorem costEL_size : ∀ l : List Rec, 11 * (costEL l : Int) ≤ 10 * sizeRs l
 | [] => by simp [costEL, sizeRs]
 | r :: l => by
   have h1 := costEL_size l
   have h2 := costE_size r
   have e1 : costEL (r :: l) = costE r + costEL l := by simp [costEL]
   have e2 : sizeRs (r :: l) = sizeR r + 5 + sizeRs l := by simp [sizeRs]
   rw [e1, e2]
   omega
end Go.Proofs.YtcmjgghkmdbphaaGreatDoor
namespace Go.Proofs.YtcmjgghkmdbphaaGreatDoor
theorem apply_outs (s : St) (r : Rec) : (applyS s r).1.outcomes = s.outcomes ∨ (applyS s r).1.outcomes = putA r.tx ⟨r.tx, r.yes, r.stamp, r.nodes⟩ s.outcomes ∨ (applyS s r).1.outcomes = delA r.tx s.outcomes := by
 unfold applyS
 split
 ·exact .inl rfl
 unfold doS
 repeat' split
 ·unfold lifeS; split <;> exact .inl rfl
 ·unfold ceilS; split <;> exact .inl rfl
 ·unfold commitS; split <;> exact .inl rfl
 ·unfold prepareS; repeat' split
  all_goals exact .inl rfl
 ·unfold decideS; split
  ·exact .inl rfl
  ·dsimp only; split <;> exact .inl rfl
 ·unfold outcomeS; repeat' split
  all_goals first | exact .inl rfl | exact .inr (.inl rfl)
 ·unfold forgetS; split
  ·exact .inl rfl
  ·exact .inr (.inr rfl)
 ·unfold splitS; repeat' split
  all_goals exact .inl rfl
 ·unfold freezeS; repeat' split
  all_goals exact .inl rfl
 ·unfold installS; repeat' split
  all_goals exact .inl rfl
 ·unfold releaseS; dsimp only; repeat' split
  all_goals exact .inl rfl
structure OutOk (s : St) (m : Nat) : Prop where
 len : s.outcomes.length ≤ m
 each : ∀ x ∈ s.outcomes, x.2.nodes.length ≤ 1000000
theorem apply_out {s : St} {r : Rec} {m : Nat} (h : OutOk s m) (hr : r.nodes.length ≤ 1000000) : OutOk (applyS s r).1 (m + 1) := by
 rcases apply_outs s r with e | e | e
 ·exact ⟨by rw [e]; have := h.len; omega, by rw [e]; exact h.each⟩
 ·refine ⟨by rw [e]; have := h.len; have := putA_len r.tx (⟨r.tx, r.yes, r.stamp, r.nodes⟩ : Outcome) s.outcomes; omega, fun x hx => ?_⟩
  rw [e] at hx
  rcases putA_mem hx with rfl | q | q
  ·exact hr
  ·exact h.each _ q.1
  ·exact h.each _ q
 ·refine ⟨by rw [e]; have := h.len; have := (delA_sub r.tx s.outcomes).length_le; omega, fun x hx => ?_⟩
  rw [e] at hx
  exact h.each _ ((delA_sub r.tx s.outcomes).subset hx)
theorem newS_out {self nodes : Int} {s : St} (h : newS self nodes = some s) : OutOk s 0 := by
 unfold newS at h
 split at h
 ·cases h
 ·injection h with h; subst h; exact ⟨Nat.le_refl _, by simp⟩
end Go.Proofs.YtcmjgghkmdbphaaGreatDoor
namespace Go.Proofs.YtcmjgghkmdbphaaGreatDoor
open Go.RowKit
theorem sameEvents_eq {l : List Event} (A A' : Option Addr) (c c' : Nat) (P P' : Nat → Prop) (w : World) (h : EventR.Row w P A l) (h' : EventR.Row w P' A' l) (hl : l.length ≤ 1000000) :
 Calls Tryz.prog 32 #[.slice A l.length c, .slice A' l.length c'] w fun e w' => e = .returned (.bool true) ∧ Below w.heap.size w w' := by
 have HR := jh (ja h h')
 clear h h'
 go_enter Tryz.func32, Tryz.ntmps32
 go_wp2_with fail
 go_loopw [5] (fun iv wr => ∃ k : Nat, k ≤ l.length ∧ iv = .int .i64 k ∧ Below w.heap.size w wr) (fun iv _ => l.length - (intOf iv).toNat)
 case atStart => exact ⟨0, Nat.zero_le _, rfl, jb _ _⟩
 case round =>
  obtain ⟨k, hk, rfl, hbl⟩ := hrel
  by_cases hlt : k < l.length
  ·have hlt' : (k : Int) < l.length := by omega
   have hlk := jg hlt
   obtain ⟨b, o, cs, hA, _, _, hr, hcs⟩ := (HR.out.1.ext hbl).at_ hlk
   obtain ⟨b', o', cs', hA', _, _, hr', hcs'⟩ := (HR.out.2.ext hbl).at_ hlk
   generalize l[k] = x at *
   obtain ⟨rfl, _⟩ := event_rep.1 hr
   obtain ⟨rfl, _⟩ := event_rep.1 hr'
   subst hA hA'
   have c0 := hcs 0 _ rfl; have c1 := hcs 1 _ rfl; have c2 := hcs 2 _ rfl; have c3 := hcs 3 _ rfl; have c4 := hcs 4 _ rfl; have c5 := hcs 5 _ rfl; have c6 := hcs 6 _ rfl; simp only [EventR_size, Nat.add_zero] at c0 c1 c2 c3 c4 c5 c6
   have d0 := hcs' 0 _ rfl; have d1 := hcs' 1 _ rfl; have d2 := hcs' 2 _ rfl; have d3 := hcs' 3 _ rfl; have d4 := hcs' 4 _ rfl; have d5 := hcs' 5 _ rfl; have d6 := hcs' 6 _ rfl; simp only [EventR_size, Nat.add_zero] at d0 d1 d2 d3 d4 d5 d6
   clear hlk hr hr' hcs hcs'
   have HB := jh hbl
   clear hbl
   go_wp2_with fail
   go_quiet (fail)
   go_wp2_with fail
   go_round
   case rel => exact ⟨k + 1, by omega, by go_num, HB.out.drewN _⟩
   case measure => simp [intOf]; omega
  ·have HB := jh hbl
   clear hbl
   go_wp2_with fail
   go_ret
   exact ⟨rfl, HB.out⟩
theorem sameRanges_eq {l : List Range} (A A' : Option Addr) (c c' : Nat) (P P' : Nat → Prop) (w : World) (h : RangeR.Row w P A l) (h' : RangeR.Row w P' A' l) (hl : l.length ≤ 1000000) :
 Calls Tryz.prog 36 #[.slice A l.length c, .slice A' l.length c'] w fun e w' => e = .returned (.bool true) ∧ Below w.heap.size w w' := by
 have HR := jh (ja h h')
 clear h h'
 go_enter Tryz.func36, Tryz.ntmps36
 go_wp2_with fail
 go_loopw [5] (fun iv wr => ∃ k : Nat, k ≤ l.length ∧ iv = .int .i64 k ∧ Below w.heap.size w wr) (fun iv _ => l.length - (intOf iv).toNat)
 case atStart => exact ⟨0, Nat.zero_le _, rfl, jb _ _⟩
 case round =>
  obtain ⟨k, hk, rfl, hbl⟩ := hrel
  by_cases hlt : k < l.length
  ·have hlt' : (k : Int) < l.length := by omega
   have hlk := jg hlt
   obtain ⟨b, o, cs, hA, _, _, hr, hcs⟩ := (HR.out.1.ext hbl).at_ hlk
   obtain ⟨b', o', cs', hA', _, _, hr', hcs'⟩ := (HR.out.2.ext hbl).at_ hlk
   generalize l[k] = x at *
   obtain ⟨rfl, _⟩ := range_rep.1 hr
   obtain ⟨rfl, _⟩ := range_rep.1 hr'
   subst hA hA'
   have c0 := hcs 0 _ rfl; have c1 := hcs 1 _ rfl; have c2 := hcs 2 _ rfl; have c3 := hcs 3 _ rfl; simp only [RangeR_size, Nat.add_zero] at c0 c1 c2 c3
   have d0 := hcs' 0 _ rfl; have d1 := hcs' 1 _ rfl; have d2 := hcs' 2 _ rfl; have d3 := hcs' 3 _ rfl; simp only [RangeR_size, Nat.add_zero] at d0 d1 d2 d3
   clear hlk hr hr' hcs hcs'
   have HB := jh hbl
   clear hbl
   go_wp2_with fail
   go_quiet (fail)
   go_wp2_with fail
   go_round
   case rel => exact ⟨k + 1, by omega, by go_num, HB.out.drewN _⟩
   case measure => simp [intOf]; omega
  ·have HB := jh hbl
   clear hbl
   go_wp2_with fail
   go_ret
   exact ⟨rfl, HB.out⟩
theorem sameStreams_eq {l : List Stream} (A A' : Option Addr) (c c' : Nat) (P P' : Nat → Prop) (w : World) (h : StreamR.Row w P A l) (h' : StreamR.Row w P' A' l) (hl : l.length ≤ 1000000) (hd : ∀ s ∈ l, s.events.length ≤ 1000000 ∧ s.keys.length ≤ 1000000) :
 Calls Tryz.prog 26 #[.slice A l.length c, .slice A' l.length c'] w fun e w' => e = .returned (.bool true) ∧ Below w.heap.size w w' := by
 have HR := jh (ja h (ja h' hd))
 clear h h' hd
 go_enter Tryz.func26, Tryz.ntmps26
 go_wp2_with fail
 go_loopw [5] (fun iv wr => ∃ k : Nat, k ≤ l.length ∧ iv = .int .i64 k ∧ Below w.heap.size w wr) (fun iv _ => l.length - (intOf iv).toNat)
 case atStart => exact ⟨0, Nat.zero_le _, rfl, jb _ _⟩
 case round =>
  obtain ⟨k, hk, rfl, hbl⟩ := hrel
  by_cases hlt : k < l.length
  ·have hlt' : (k : Int) < l.length := by omega
   have hlk := jg hlt
   have hdk := HR.out.2.2 _ (List.getElem_mem hlt)
   obtain ⟨b, o, cs, hA, _, _, hr, hcs⟩ := (HR.out.1.ext hbl).at_ hlk
   obtain ⟨b', o', cs', hA', _, _, hr', hcs'⟩ := (HR.out.2.1.ext hbl).at_ hlk
   generalize l[k] = x at *
   obtain ⟨eA, ec, kA, kc, rfl, _, _, _, he, _, _, hk1⟩ := stream_rep.1 hr
   obtain ⟨eA', ec', kA', kc', rfl, _, _, _, he', _, _, hk2⟩ := stream_rep.1 hr'
   subst hA hA'
   have c0 := hcs 0 _ rfl
   have c1 := hcs 1 _ rfl
   have c2 := hcs 2 _ rfl
   have d0 := hcs' 0 _ rfl
   have d1 := hcs' 1 _ rfl
   have d2 := hcs' 2 _ rfl
   simp only [StreamR_size, Nat.add_zero] at c0 c1 c2 d0 d1 d2
   have HC := jh (ja c2 d2)
   have c0 := On.cell c0
   have c1 := On.cell c1
   have c2 := On.cell c2
   have d0 := On.cell d0
   have d1 := On.cell d1
   have d2 := On.cell d2
   have HE := jh (ja he (ja he' (ja hk1 (ja hk2 hdk))))
   have HB := jh hbl
   clear hlk hr hr' hcs hcs' he he' hk1 hk2 hbl hdk
   go_upto_region 6 with fail
   refine wp_region_mix (.seg [0, 1, 2, 3, 4, 5, 6, 7, 8, 9, 10, 11, 12, 13, 14, 15, 16, 17, 18, 19, 20, 21] 22 (.leaf [23, 24, 25, 26, 27, 28, 29, 30, 31, 32, 33, 34, 35, 36, 37, 38, 39])) (fun w' => ∃ d : Wd (On wr), w' = d.w) (by kernel_rfl) (by kernel_rfl) (fun _ _ d _ _ h => by cases d <;> exact h) (ClsW.mk (jb _ _).drew) ?_
   unfold wpMix; simp only [pick, j1, j2, j3, j4]
   (repeat (show wpQuiet _ _ _ _ (_ :: _) _; go_big_quiet_step (fail))); refine qn ?_
   have CE := sameEvents_eq eA eA' ec ec' _ _ wr.drew (HE.out.1.ext (jb _ _).drew) (HE.out.2.1.ext (jb _ _).drew) HE.out.2.2.2.2.1
   go_wp2_with fail
   refine CE.mono ?_
   clear CE
   rintro e w2 ⟨rfl, hb2'⟩
   have hb2 : Below wr.heap.size wr w2 := (jb _ wr).drew.tr hb2'
   clear hb2'
   go_wp2_with fail
   (refine segw (D := On wr) (hb2) ?_; unfold wpMix; simp only [pick, j1, j2, j3, j4]; (repeat (show wpQuiet _ _ _ _ (_ :: _) _; go_big_quiet_step (fail))); refine qn ?_)
   have HB2 := jh (ja (HB.out.tr hb2) hb2)
   clear c0 c1 c2 d0 d1 d2 hb2
   go_wp2_with fail
   have z2 := HC.out.1
   have z2' := HC.out.2
   have y2 : w2.cell? ⟨b, o + k * 3 + 2, none⟩ = some (.slice kA x.keys.length kc) := (Below.cell HB2.out.2 (p := ⟨b, o + k * 3 + 2, none⟩) (lt_of_cell z2)).trans z2
   have y2' : w2.cell? ⟨b', o' + k * 3 + 2, none⟩ = some (.slice kA' x.keys.length kc') := (Below.cell HB2.out.2 (p := ⟨b', o' + k * 3 + 2, none⟩) (lt_of_cell z2')).trans z2'
   clear z2 z2'
   have HY := jh (ja y2 y2')
   clear y2 y2'
   go_loopw [6] (fun jv wx => ∃ j : Nat, j ≤ x.keys.length ∧ jv = .int .i64 j ∧ Below w2.heap.size w2 wx) (fun jv _ => x.keys.length - (intOf jv).toNat)
   case atStart => exact ⟨0, Nat.zero_le _, rfl, jb _ _⟩
   case round =>
    obtain ⟨j, hj, rfl, hbj⟩ := hrel
    have y2 : wr.cell? ⟨b, o + k * 3 + 2, none⟩ = some (.slice kA x.keys.length kc) := (Below.cell hbj (p := ⟨b, o + k * 3 + 2, none⟩) (lt_of_cell HY.out.1)).trans HY.out.1
    have y2' : wr.cell? ⟨b', o' + k * 3 + 2, none⟩ = some (.slice kA' x.keys.length kc') := (Below.cell hbj (p := ⟨b', o' + k * 3 + 2, none⟩) (lt_of_cell HY.out.2)).trans HY.out.2
    have hkl := HE.out.2.2.2.2.2
    by_cases hjt : j < x.keys.length
    ·have hjt' : (j : Int) < x.keys.length := by omega
     have hlj := jg hjt
     obtain ⟨q, p, cs, hA, _, _, hr, hcs⟩ := ((HE.out.2.2.1.ext HB2.out.2).ext hbj).at_ hlj
     obtain ⟨q', p', cs', hA', _, _, hr', hcs'⟩ := ((HE.out.2.2.2.1.ext HB2.out.2).ext hbj).at_ hlj
     generalize x.keys[j] = y at *
     obtain ⟨rfl, _⟩ := known_rep.1 hr
     obtain ⟨rfl, _⟩ := known_rep.1 hr'
     subst hA hA'
     have c0 := hcs 0 _ rfl; have c1 := hcs 1 _ rfl; have c2 := hcs 2 _ rfl; have c3 := hcs 3 _ rfl; have c4 := hcs 4 _ rfl; simp only [KnownR_size, Nat.add_zero] at c0 c1 c2 c3 c4
     have d0 := hcs' 0 _ rfl
     have d1 := hcs' 1 _ rfl
     have d2 := hcs' 2 _ rfl
     have d3 := hcs' 3 _ rfl
     have d4 := hcs' 4 _ rfl
     simp only [KnownR_size, Nat.add_zero] at d0 d1 d2 d3 d4
     clear hlj hr hr' hcs hcs'
     have HJ := jh hbj
     clear hbj
     go_wp2_with fail
     go_quiet (fail)
     go_wp2_with fail
     go_round
     case rel => exact ⟨j + 1, by omega, by go_num, HJ.out.drewN _⟩
     case measure => simp [intOf]; omega
    ·have hjn : (x.keys.length : Int) ≤ j := by omega
     have HJ := jh hbj
     clear hbj
     go_wp2_with fail
     go_round
     case rel => exact ⟨k + 1, by omega, by go_num, HB2.out.1.tr HJ.out⟩
     case measure => simp [intOf]; omega
  ·have HB := jh hbl
   clear hbl
   go_wp2_with fail
   go_ret
   exact ⟨rfl, HB.out⟩
end Go.Proofs.YtcmjgghkmdbphaaGreatDoor
namespace Go.Proofs.YtcmjgghkmdbphaaGreatDoor
open Go.RowKit Go.Shelf Go.Sort
theorem OnlyD.cell {F : Nat → Prop} {wx : World} {p : Addr} {u : Value} (h : wx.cell? p = some u) (hF : ¬ F p.block) : ∀ d : Wd (Only F wx), d.w.cell? p = some u := fun d =>
 (World.cell?_of_block (w := wx) (d.ok.block p.block (lt_of_cell h) hF)).trans h
theorem txs_at {w : World} {B e : Nat} {v : Value} {ts : List Tx} (h : w.ownsRow B e 3 v ts.length (ts.flatMap Tx.cells)) {k : Nat} {t : Tx} (hk : ts[k]? = some t) :
 ∃ g c, v = .slice (some ⟨g, 0, none⟩) ts.length c ∧ B ≤ g ∧ g < w.heap.size ∧ w.cell? ⟨g, k * 3, none⟩ = some (.int .i64 t.node) ∧ w.cell? ⟨g, k * 3 + 1, none⟩ = some (.int .i64 t.life) ∧ w.cell? ⟨g, k * 3 + 2, none⟩ = some (.int .i64 t.num) := by
 have hkl := (List.getElem?_eq_some_iff.1 hk).1
 have hk2 := (List.getElem?_eq_some_iff.1 hk).2
 rcases h.2 with ⟨_, h0⟩ | ⟨g, cap, cur, rfl, hB, hg, hn, hc, hs, ht⟩
 ·omega
 ·have hgl := (Array.getElem?_eq_some_iff.1 hg).1
  have key : ∀ j, j < 3 → w.cell? ⟨g, k * 3 + j, none⟩ = t.cells[j]? := fun j hj => by
   have h1 : k * 3 + j < ts.length * 3 := by omega
   have h2 := flat_get ts (k * 3 + j) h1
   rw [show (k * 3 + j) / 3 = k by omega, show (k * 3 + j) % 3 = j by omega, getElem!_pos _ k hkl, hk2] at h2
   have h3 : (ts.flatMap Tx.cells)[k * 3 + j]? = cur[k * 3 + j]? := by
    rw [← ht, List.getElem?_take_of_lt (by first | exact h1 | (rw [flat_len]; exact h1)), Array.getElem?_toList]
   unfold World.cell?
   simp only [hg]
   rw [← h3, h2]
   match j, hj with
   | 0, _ => rfl
   | 1, _ => rfl
   | 2, _ => rfl
  exact ⟨g, cap, rfl, hB, hgl, key 0 (by decide), key 1 (by decide), key 2 (by decide)⟩
theorem held_info : (Tryz.prog.info? 192).map (fun i => (i.zero, i.size, i.bytes)) = some (some (.agg Held.zeros.toArray), 9, 112) := by kernel_rfl
def dftHeld : Held := ⟨⟨0, 0, 0⟩, ⟨⟨#[]⟩, []⟩, ⟨0, 0, 0⟩, []⟩
def heldsOf (s : St) (ts : List Tx) : List Held := ts.map fun t => (getA t s.held).getD dftHeld
theorem heldsOf_perm {s : St} (hn : (s.held.map (·.1)).Nodup) {ts : List Tx} (hp : ts.Perm (s.held.map (·.1))) : (heldsOf s ts).Perm (s.held.map (·.2)) := by
 refine (hp.map _).trans ?_
 rw [List.map_map]
 refine List.Perm.of_eq (List.map_congr_left fun p hp => ?_)
 show (getA p.1 s.held).getD dftHeld = p.2
 rw [getA_of_mem hn hp]; rfl
def GotHelds (s : St) (B : Nat) (e : Ending) (w' : World) : Prop := ∃ v hs, e = .returned v ∧ hs.Perm (s.held.map (·.2)) ∧ HeldR.Own w' B 192 (fun k => B ≤ k) v hs
theorem sheld_any (g : Nat) (s : St) (P : Nat → Prop) (w : World) (h : StAt w P g s) (hs : s.self ≠ 0) (hf : ∀ x ∈ s.held, HeldFit x.2) (hl : s.held.length ≤ 1000000) :
 Calls Tryz.prog 41 #[ptrV g] w fun e w' => GotHelds s w.heap.size e w' ∧ Below w.heap.size w w' := by
 by_cases h0 : s.held = []
 ·refine (heldNo_any g s P w h hs h0).mono ?_
  rintro e w' ⟨rfl, hb⟩
  exact ⟨⟨_, [], rfl, by rw [h0]; exact .nil, Rep.Own.nil_⟩, hb⟩
 obtain ⟨v, hB, hI⟩ := h
 have hnd := hI.held.1
 obtain ⟨LA, hMV, hLr, hll⟩ := hI.held.mapV
 have C1 := gone_any g s.self w (hB.cell 0) hs
 have b6 : w.cell? ⟨g, 6, none⟩ = some v.held := hB.cell 6
 have hLA : LA ≠ [] := fun e => h0 (by rw [hll, e]; rfl)
 obtain ⟨m, hv, hM⟩ : ∃ m, v.held = .map (some m) ∧ MapAt txE w m (LA.map fun p => (p.1, aggV p.2.2)) := by
  rcases hMV with ⟨_, e⟩ | h
  ·exact absurd (List.map_eq_nil_iff.1 e) hLA
  ·exact h
 rw [hv] at b6
 have C2 := keysH_any (some m) w
 have hb1 := (jb w.heap.size w).al (.cells #[.map (some m)] 172)
 have C3 := sortedH_any w.heap.size m _ (w.alloc (.cells #[.map (some m)] 172)) (by simp) ((Blk.new w 172 [.map (some m)]).cell 0) (hM.ext hb1) (by rw [List.length_map]; have := congrArg List.length hll; rw [List.length_map] at this; omega) (fun e => hLA (List.map_eq_nil_iff.1 e))
 have HV := jh (ja hB (ja hMV (ja hLr (ja hll (ja hnd (ja hf (ja hl (ja hb1 hv))))))))
 clear hB hI hMV hLr hll hnd hf hM hb1 h0 hLA hl hv
 unfold GotTxs at C3
 unfold ptrV at C1 ⊢
 go_enter Tryz.func41, Tryz.ntmps41
 go_wp2_with fail
 refine C1.mono ?_
 clear C1
 rintro e w' ⟨rfl, rfl⟩
 go_wp2_with fail
 refine C2.mono ?_
 clear C2 b6
 rintro e w1 ⟨rfl, rfl⟩
 go_wp2_with fail
 refine C3.mono ?_
 clear C3
 rintro e w2 ⟨⟨vt, ts, rfl, hpt, hrow⟩, hb2⟩
 have hpt : ts.Perm (s.held.map (·.1)) := hpt.trans (.of_eq (by rw [HV.out.2.2.2.1, List.map_map, List.map_map]; rfl))
 have htl : ts.length ≤ 1000000 := by have := hpt.length_eq; rw [List.length_map] at this; have := HV.out.2.2.2.2.2.2.1; omega
 have hz1 : (w.alloc (.cells #[.map (some m)] 172)).heap.size = w.heap.size + 1 := by simp
 have hw2 := HV.out.2.2.2.2.2.2.2.1.tr hb2
 obtain ⟨At, ct, rfl⟩ := own_form hrow
 have H2 := jh (ja hpt (ja hrow hw2))
 clear hpt hrow hw2 hb2
 go_wp2_with fail
 go_loopw [2, 14] (fun ov iv wr => ∃ k : Nat, k ≤ ts.length ∧ iv = .int .i64 k ∧ HeldR.Own wr w.heap.size 192 (fun q => w.heap.size ≤ q) ov (heldsOf s (ts.take k)) ∧ Below w2.heap.size w2 wr ∧ (∀ q, ov.ownBlock = some q → w2.heap.size ≤ q)) (fun _ iv _ => ts.length - (intOf iv).toNat)
 case atStart => exact ⟨0, Nat.zero_le _, rfl, by rw [List.take_zero]; exact Rep.Own.nil_, jb _ _, fun q e => by cases e⟩
 case round =>
  obtain ⟨k, hk, rfl, hown, hbl, hoff⟩ := hrel
  obtain ⟨Ao, co, rfl, _⟩ := hown.form
  by_cases hlt : k < ts.length
  ·have hlt' : (k : Int) < ts.length := by omega
   have hlk := jg hlt
   have hts : heldsOf s (ts.take (k + 1)) = heldsOf s (ts.take k) ++ [(getA ts[k] s.held).getD dftHeld] := by
    unfold heldsOf; rw [take_snoc ts k hlt, List.map_append]; rfl
   have hmem : ts[k] ∈ s.held.map (·.1) := H2.out.1.subset (List.getElem_mem hlt)
   obtain ⟨gt, cc, hvt, _, hgt, e0, e1, e2⟩ := txs_at (H2.out.2.1.ext_ hbl) hlk
   generalize ts[k] = t at *
   injection hvt with hA _ hcc
   subst hA hcc
   have hMVr : MapV wr v.held (LA.map fun p => (p.1, aggV p.2.2)) := HV.out.2.1.ext (H2.out.2.2.tr hbl)
   rcases held_of (fun p hp => HeldR.same (HV.out.2.2.1 p hp) (js (H2.out.2.2.tr hbl))) t with ⟨hg0, _⟩ | ⟨h, pA, pc, fA, fc, hgs, hq, k1, k2, k3, k4, k5⟩
   ·exfalso
    rw [← HV.out.2.2.2.1] at hg0
    exact (getA_none.1 hg0) hmem
   rw [← HV.out.2.2.2.1] at hgs
   rw [hgs, Option.getD_some] at hts
   have hfit : HeldFit h := HV.out.2.2.2.2.2.1 _ (getA_mem hgs)
   have hol : (heldsOf s (ts.take k)).length ≤ 1000000 := by unfold heldsOf; rw [List.length_map, List.length_take]; omega
   have y6 : wr.cell? ⟨g, 6, none⟩ = some v.held := (HV.out.1.ext (H2.out.2.2.tr hbl)).cell 6
   rw [HV.out.2.2.2.2.2.2.2.2] at y6
   have HO := jh (ja hown (ja hbl (ja hoff (ja hts (ja k1 (ja k2 (ja k3 (ja k4 (ja k5 hfit)))))))))
   have hMVr : MapV wr (.map (some m)) (LA.map fun p => (p.1, aggV p.2.2)) := by rw [← HV.out.2.2.2.2.2.2.2.2]; exact hMVr
   have HMX := jh hMVr
   clear hmem hlk hown hbl hoff hts k1 k2 k3 k4 k5 hfit hgs hMVr
   go_upto_region 6 with fail
   have hbx := (jb wr.heap.size wr).al (.cells #[.int .i64 t.node, .int .i64 t.life, .int .i64 t.num] 42)
   have BX := Blk.new wr 42 [.int .i64 t.node, .int .i64 t.life, .int .i64 t.num]
   have hzx : (wr.alloc (.cells #[.int .i64 t.node, .int .i64 t.life, .int .i64 t.num] 42)).heap.size = wr.heap.size + 1 := by simp
   have z6 : (wr.alloc (.cells #[.int .i64 t.node, .int .i64 t.life, .int .i64 t.num] 42)).cell? ⟨g, 6, none⟩ = some (.map (some m)) := by
    have := (HV.out.1.ext ((H2.out.2.2.tr HO.out.2.1).tr hbx)).cell 6
    rw [this, ← HV.out.2.2.2.2.2.2.2.2]; rfl
   generalize (wr.alloc (.cells #[.int .i64 t.node, .int .i64 t.life, .int .i64 t.num] 42)) = wx at *
   have hzr := HO.out.2.1.size
   have hz2 := H2.out.2.2.size
   have hgl := HV.out.1.lt
   have hml : m < w.heap.size := by
    rcases HV.out.2.1 with ⟨e, _⟩ | ⟨m', e, hM⟩
    ·rw [HV.out.2.2.2.2.2.2.2.2] at e; cases e
    ·rw [HV.out.2.2.2.2.2.2.2.2] at e
     injection e with e
     injection e with e
     rw [e]; exact hM.lt
   obtain ⟨F, hF⟩ : ∃ F : Nat → Prop, F = fun q => w2.heap.size ≤ q ∧ q ≠ wr.heap.size := ⟨_, rfl⟩
   have HF := jh hF
   have nF1 : ∀ q, q < w2.heap.size → ¬ F q := fun q h1 h2 => by rw [hF] at h2; have := h2.1; omega
   have nF2 : ¬ F wr.heap.size := fun h2 => by rw [hF] at h2; exact h2.2 rfl
   have z6 := OnlyD.cell (F := F) z6 (nF1 _ (by show g < _; omega))
   have x0 := OnlyD.cell (F := F) (BX.cell 0 : wx.cell? ⟨wr.heap.size, 0, none⟩ = some (.int .i64 t.node)) nF2
   have x1 := OnlyD.cell (F := F) (BX.cell 1 : wx.cell? ⟨wr.heap.size, 1, none⟩ = some (.int .i64 t.life)) nF2
   have x2 := OnlyD.cell (F := F) (BX.cell 2 : wx.cell? ⟨wr.heap.size, 2, none⟩ = some (.int .i64 t.num)) nF2
   have hMx := HMX.out.ext hbx
   clear hF
   have HMV := jh (fun (W : World) (hW : ∃ d : Wd (Only F wx), W = d.w) => (show MapV W (.map (some m)) (LA.map fun p => (p.1, aggV p.2.2)) from by
    obtain ⟨d, rfl⟩ := hW
    rcases hMx with ⟨e, _⟩ | ⟨m', e, hM⟩
    ·cases e
    ·injection e with e
     injection e with e
     subst e
     exact .inr ⟨_, rfl, hM.only d.ok (nF1 _ (by omega))⟩))
   have hlo : Only F wx wx.drew := Only.drew
   have HBX := jh hbx
   haveI : Nonempty (Wd (Only F wx)) := ⟨⟨wx, Only.refl _ _⟩⟩
   clear hbx BX y6 e0 e1 e2 hMx
   refine wp_region_mix (.seg [0, 1, 2, 3, 4, 5, 6] 7 (.seg [] 8 (.seg [] 9 (.leaf [10])))) (fun w' => ∃ d : Wd (Only F wx), w' = d.w) (by kernel_rfl) (by kernel_rfl) (fun _ _ d _ _ h => by cases d <;> exact h) (ClsW.mk (D := Only F wx) hlo) ?_
   unfold wpMix; simp only [pick, j1, j2, j3, j4]
   (repeat (show wpQuiet _ _ _ _ (_ :: _) _; first | (refine wpQuiet_lookup_v _ rfl (.tmp 22) (.tmp 23) 172 false rfl Tryz.underlying172 rfl HMV.out t rfl hq _ zero_held ?_; simp only [Bool.false_eq_true, if_false, Option.getD_some]; unfold Held.cellsV; go_simp) | go_big_quiet_step (fail))); refine qn ?_
   have CO := own_any h pA fA pc fc P wx.drew (((HO.out.2.2.2.2.2.2.2.1).2.2.same (js (HBX.out.drew)) HBX.out.drew.size)) (((HO.out.2.2.2.2.2.2.2.2.1).2.2.same (js (HBX.out.drew)) HBX.out.drew.size)) (by have := HO.out.2.2.2.2.2.2.2.2.2.few; omega) (fun p hp => by have := (HO.out.2.2.2.2.2.2.2.2.2.data p hp).1; omega) (by have := HO.out.2.2.2.2.2.2.2.2.2.firsts.1; omega)
   unfold GotHeld Held.cellsV at CO
   go_wp2_with fail
   refine CO.mono ?_
   clear CO
   rintro e w7 ⟨⟨qA, qc, uA, uc, rfl, hq7, hu7⟩, hb7'⟩
   have hb7 : Below wx.heap.size wx w7 := (jb wx.heap.size wx).drew.tr hb7'
   have hzd : wx.drew.heap.size = wx.heap.size := rfl
   have hz7 := hb7.size
   have HO7 := jh (HO.out.1.ext (HBX.out.tr hb7))
   have hH7 : HeldR.rep w7 (fun q => wx.heap.size ≤ q) (Held.cellsV h qA qc uA uc) h := held_rep.2 ⟨qA, qc, uA, uc, rfl, HO.out.2.2.2.2.1, HO.out.2.2.2.2.2.1, HO.out.2.2.2.2.2.2.1, hq7, hu7⟩
   have H7 := jh (ja hH7 hb7)
   have hO7 : Only F wx w7 := jo hb7
   have hO8 : Only F wx (w7.alloc (.cells (Held.cellsV h qA qc uA uc).toArray 192)) := jo (hb7.al _)
   unfold Held.cellsV at hO8
   clear hb7' hq7 hu7 hH7 hb7
   go_wp2_with fail
   (refine segw (D := Only F wx) (hO7) ?_; unfold wpMix; simp only [pick, j1, j2, j3, j4]; (repeat (show wpQuiet _ _ _ _ (_ :: _) _; go_big_quiet_step (fail))); refine qn ?_)
   go_wp2_with fail
   (refine segw (D := Only F wx) (hO8) ?_; unfold wpMix; simp only [pick, j1, j2, j3, j4]; (repeat (show wpQuiet _ _ _ _ (_ :: _) _; go_big_quiet_step (fail))); refine qn ?_)
   obtain ⟨i0, r1, r2, r3, r4⟩ := info_parts held_info
   refine wpList_append_new (R := HeldR) (cs := Held.cellsV h qA qc uA uc) w7 rfl (.tmp 18) (.tmp 26) _ rfl w.heap.size 192 i0 _ 112 Tryz.underlying83 r1 r2 r3 r4 rfl _ (heldsOf s (ts.take k)) (fun q => w.heap.size ≤ q) rfl HO7.out (fun _ h => h) rfl (fun q => wx.heap.size ≤ q) h H7.out.1 (fun q h1 h2 => ⟨by omega, fun e => by
    have h3 := (HO.out.1.lt q e.symm).2
    omega⟩) (by unfold maxLen; omega) (by omega) (by omega) ?_
   intro v8 w8 ho8 hg8 hat8 hne8 hb8'
   have hoff8 : ∀ q, (Value.slice Ao (heldsOf s (List.take k ts)).length co).ownBlock = some q → w2.heap.size ≤ q ∧ q < wr.heap.size := fun q e => ⟨HO.out.2.2.1 q e, (HO.out.1.lt q e).2⟩
   have hbr : Below w2.heap.size w2 w7 := HO.out.2.1.tr (HBX.out.tr H7.out.2)
   have hb9 : Below w2.heap.size w2 w8 := ⟨hg8.os.trans hbr.os, hg8.tape.trans hbr.tape, hg8.output.trans hbr.output, Nat.le_trans hbr.size hg8.size, fun q hq => (hg8.block q (by omega) (fun e => by have := (hoff8 q e.symm).1; omega)).trans (hbr.block q hq)⟩
   have hO9 : Only F wx w8 := (jo H7.out.2).tr (Only.grown hg8 fun q e => by
    rw [HF.out]; have := hoff8 q e; exact ⟨this.1, by omega⟩)
   obtain ⟨A8, c8, rfl, _⟩ := ho8.form
   have hl8 : (heldsOf s (List.take k ts) ++ [h]).length = (heldsOf s (List.take k ts)).length + 1 := by simp
   rw [hl8] at ho8 hat8 ⊢
   have H8 := jh (ja ho8 (ja hb9 hat8))
   clear hl8
   clear ho8 hg8 hne8 hb8' hb9 hoff8 hbr r1 r2 r3 r4
   go_simp
   (refine segw (D := Only F wx) (hO9) ?_; unfold wpMix; simp only [pick, j1, j2, j3, j4]; (repeat (show wpQuiet _ _ _ _ (_ :: _) _; go_big_quiet_step (fail))); refine qn ?_)
   clear z6 x0 x1 x2 hO7 hO8 hO9 hlo
   go_wp2_with fail
   go_round
   case rel => exact ⟨k + 1, by omega, by go_num, by rw [HO.out.2.2.2.1]; exact H8.out.1, H8.out.2.1, fun q e => by
    rcases H8.out.2.2 with h | h
    ·rw [h] at e; exact HO.out.2.2.1 q e
    ·rw [h] at e; injection e with e; omega⟩
   case measure => simp [intOf]; omega
  ·have hkn : k = ts.length := by omega
   subst hkn
   rw [List.take_length] at hown ⊢
   have HO := jh (ja hown hbl)
   clear hown hbl hoff
   go_wp2_with fail
   go_ret
   exact ⟨⟨_, _, rfl, heldsOf_perm HV.out.2.2.2.2.1 H2.out.1, HO.out.1⟩, H2.out.2.2.tr HO.out.2⟩
end Go.Proofs.YtcmjgghkmdbphaaGreatDoor
namespace Go.Proofs.YtcmjgghkmdbphaaGreatDoor
open Go.RowKit Go.Shelf Go.Sort
def Outcome.zeros : List Value := [.int .i64 0, .int .i64 0, .int .i64 0, .bool false, .int .i64 0, .int .i64 0, .int .i64 0, .slice none 0 0]
theorem outcome_info : (Tryz.prog.info? 213).map (fun i => (i.zero, i.size, i.bytes)) = some (some (.agg Outcome.zeros.toArray), 8, 80) := by kernel_rfl
def dftOut : Outcome := ⟨⟨0, 0, 0⟩, false, ⟨0, 0, 0⟩, []⟩
def outsOf (s : St) (ts : List Tx) : List Outcome := ts.map fun t => (getA t s.outcomes).getD dftOut
theorem outsOf_perm {s : St} (hn : (s.outcomes.map (·.1)).Nodup) {ts : List Tx} (hp : ts.Perm (s.outcomes.map (·.1))) : (outsOf s ts).Perm (s.outcomes.map (·.2)) := by
 refine (hp.map _).trans ?_
 rw [List.map_map]
 refine List.Perm.of_eq (List.map_congr_left fun p hp => ?_)
 show (getA p.1 s.outcomes).getD dftOut = p.2
 rw [getA_of_mem hn hp]; rfl
theorem outcome_of2 {LA : List (Tx × (Outcome × List Value))} {w : World} {P : Nat → Prop} (hr : ∀ p ∈ LA, OutcomeR.rep w P p.2.2 p.2.1) (t : Tx) :
 (getA t (LA.map fun p => (p.1, p.2.1)) = none ∧ assocOf t (LA.map fun p => (p.1, aggV p.2.2)) = none) ∨
 ∃ h fA fc, getA t (LA.map fun p => (p.1, p.2.1)) = some h ∧ assocOf t (LA.map fun p => (p.1, aggV p.2.2)) = some (.agg (h.cellsV fA fc).toArray) ∧ h.tx.fit ∧ h.stamp.fit ∧ (h.nodes.length ≤ fc ∧ fc ≤ 9223372036854775807 ∧ IntR.Row w P fA h.nodes) := by
 rw [assocOf_eq, getA_map (fun x : Outcome × List Value => x.1) t LA, getA_map (fun x : Outcome × List Value => aggV x.2) t LA]
 cases hg : getA t LA with
 | none => exact .inl ⟨rfl, rfl⟩
 | some x =>
   obtain ⟨h, cs⟩ := x
   have := hr _ (getA_mem hg)
   dsimp only at this
   obtain ⟨fA, fc, rfl, k⟩ := outcome_rep.1 this
   exact .inr ⟨h, fA, fc, rfl, rfl, k⟩
theorem outcomesNo_any (g : Nat) (s : St) (P : Nat → Prop) (w : World) (h : StAt w P g s) (hs : s.self ≠ 0) (h0 : s.outcomes = []) : Calls Tryz.prog 42 #[ptrV g] w fun e w' => e = .returned (.slice none 0 0) ∧ Below w.heap.size w w' := by
 obtain ⟨v, hB, hI⟩ := h
 obtain ⟨LA, hMV, _, hl⟩ := hI.outcomes.mapV
 have hLA : LA = [] := by
  rw [h0] at hl
  exact List.map_eq_nil_iff.1 hl.symm
 subst hLA
 have C1 := gone_any g s.self w (hB.cell 0) hs
 have b6 : w.cell? ⟨g, 7, none⟩ = some v.outcomes := hB.cell 7
 obtain ⟨mb, hv⟩ : ∃ mb, v.outcomes = .map mb := by
  rcases hMV with ⟨e, _⟩ | ⟨m, e, _⟩
  ·exact ⟨_, e⟩
  ·exact ⟨_, e⟩
 rw [hv] at b6 hMV
 have C2 := keysO_any mb w
 have C3 := sortedNoO_any mb w hMV
 clear hB hI hMV hv hl h0
 unfold ptrV at C1 ⊢
 go_enter Tryz.func42, Tryz.ntmps42
 go_wp2_with fail
 refine C1.mono ?_
 clear C1
 rintro e w' ⟨rfl, rfl⟩
 go_wp2_with fail
 refine C2.mono ?_
 clear C2 b6
 rintro e w1 ⟨rfl, rfl⟩
 go_wp2_with fail
 refine C3.mono ?_
 clear C3
 rintro e w2 ⟨rfl, hb2⟩
 go_wp2_with fail
 go_loopw [2, 15] (fun o i wr => o = .slice none 0 0 ∧ i = .int .i64 0 ∧ wr = w2) (fun _ _ _ => 0)
 case atStart => exact ⟨rfl, rfl, rfl⟩
 case round =>
  obtain ⟨rfl, rfl, rfl⟩ := hrel
  go_wp2_with fail
  go_ret
  exact ⟨rfl, hb2⟩
def GotOuts (s : St) (B : Nat) (e : Ending) (w' : World) : Prop := ∃ v hs, e = .returned v ∧ hs.Perm (s.outcomes.map (·.2)) ∧ OutcomeR.Own w' B 213 (fun k => B ≤ k) v hs
theorem souts_any (g : Nat) (s : St) (P : Nat → Prop) (w : World) (h : StAt w P g s) (hs : s.self ≠ 0) (hf : ∀ x ∈ s.outcomes, x.2.nodes.length ≤ 1000000) (hl : s.outcomes.length ≤ 1000000) :
 Calls Tryz.prog 42 #[ptrV g] w fun e w' => GotOuts s w.heap.size e w' ∧ Below w.heap.size w w' := by
 by_cases h0 : s.outcomes = []
 ·refine (outcomesNo_any g s P w h hs h0).mono ?_
  rintro e w' ⟨rfl, hb⟩
  exact ⟨⟨_, [], rfl, by rw [h0]; exact .nil, Rep.Own.nil_⟩, hb⟩
 obtain ⟨v, hB, hI⟩ := h
 have hnd := hI.outcomes.1
 obtain ⟨LA, hMV, hLr, hll⟩ := hI.outcomes.mapV
 have C1 := gone_any g s.self w (hB.cell 0) hs
 have b6 : w.cell? ⟨g, 7, none⟩ = some v.outcomes := hB.cell 7
 have hLA : LA ≠ [] := fun e => h0 (by rw [hll, e]; rfl)
 obtain ⟨m, hv, hM⟩ : ∃ m, v.outcomes = .map (some m) ∧ MapAt txE w m (LA.map fun p => (p.1, aggV p.2.2)) := by
  rcases hMV with ⟨_, e⟩ | h
  ·exact absurd (List.map_eq_nil_iff.1 e) hLA
  ·exact h
 rw [hv] at b6
 have C2 := keysO_any (some m) w
 have hb1 := (jb w.heap.size w).al (.cells #[.map (some m)] 173)
 have C3 := sortedO_any w.heap.size m _ (w.alloc (.cells #[.map (some m)] 173)) (by simp) ((Blk.new w 173 [.map (some m)]).cell 0) (hM.ext hb1) (by rw [List.length_map]; have := congrArg List.length hll; rw [List.length_map] at this; omega) (fun e => hLA (List.map_eq_nil_iff.1 e))
 have HV := jh (ja hB (ja hMV (ja hLr (ja hll (ja hnd (ja hf (ja hl (ja hb1 hv))))))))
 clear hB hI hMV hLr hll hnd hf hM hb1 h0 hLA hl hv
 unfold GotTxs at C3
 unfold ptrV at C1 ⊢
 go_enter Tryz.func42, Tryz.ntmps42
 go_wp2_with fail
 refine C1.mono ?_
 clear C1
 rintro e w' ⟨rfl, rfl⟩
 go_wp2_with fail
 refine C2.mono ?_
 clear C2 b6
 rintro e w1 ⟨rfl, rfl⟩
 go_wp2_with fail
 refine C3.mono ?_
 clear C3
 rintro e w2 ⟨⟨vt, ts, rfl, hpt, hrow⟩, hb2⟩
 have hpt : ts.Perm (s.outcomes.map (·.1)) := hpt.trans (.of_eq (by rw [HV.out.2.2.2.1, List.map_map, List.map_map]; rfl))
 have htl : ts.length ≤ 1000000 := by have := hpt.length_eq; rw [List.length_map] at this; have := HV.out.2.2.2.2.2.2.1; omega
 have hz1 : (w.alloc (.cells #[.map (some m)] 173)).heap.size = w.heap.size + 1 := by simp
 have hw2 := HV.out.2.2.2.2.2.2.2.1.tr hb2
 obtain ⟨At, ct, rfl⟩ := own_form hrow
 have H2 := jh (ja hpt (ja hrow hw2))
 clear hpt hrow hw2 hb2
 go_wp2_with fail
 go_loopw [2, 15] (fun ov iv wr => ∃ k : Nat, k ≤ ts.length ∧ iv = .int .i64 k ∧ OutcomeR.Own wr w.heap.size 213 (fun q => w.heap.size ≤ q) ov (outsOf s (ts.take k)) ∧ Below w2.heap.size w2 wr ∧ (∀ q, ov.ownBlock = some q → w2.heap.size ≤ q)) (fun _ iv _ => ts.length - (intOf iv).toNat)
 case atStart => exact ⟨0, Nat.zero_le _, rfl, by rw [List.take_zero]; exact Rep.Own.nil_, jb _ _, fun q e => by cases e⟩
 case round =>
  obtain ⟨k, hk, rfl, hown, hbl, hoff⟩ := hrel
  obtain ⟨Ao, co, rfl, _⟩ := hown.form
  by_cases hlt : k < ts.length
  ·have hlt' : (k : Int) < ts.length := by omega
   have hlk := jg hlt
   have hts : outsOf s (ts.take (k + 1)) = outsOf s (ts.take k) ++ [(getA ts[k] s.outcomes).getD dftOut] := by
    unfold outsOf; rw [take_snoc ts k hlt, List.map_append]; rfl
   have hmem : ts[k] ∈ s.outcomes.map (·.1) := H2.out.1.subset (List.getElem_mem hlt)
   obtain ⟨gt, cc, hvt, _, hgt, e0, e1, e2⟩ := txs_at (H2.out.2.1.ext_ hbl) hlk
   generalize ts[k] = t at *
   injection hvt with hA _ hcc
   subst hA hcc
   have hMVr : MapV wr v.outcomes (LA.map fun p => (p.1, aggV p.2.2)) := HV.out.2.1.ext (H2.out.2.2.tr hbl)
   rcases outcome_of2 (fun p hp => OutcomeR.same (HV.out.2.2.1 p hp) (js (H2.out.2.2.tr hbl))) t with ⟨hg0, _⟩ | ⟨h, fA, fc, hgs, hq, k1, k2, k3⟩
   ·exfalso
    rw [← HV.out.2.2.2.1] at hg0
    exact (getA_none.1 hg0) hmem
   rw [← HV.out.2.2.2.1] at hgs
   rw [hgs, Option.getD_some] at hts
   have hfit : h.nodes.length ≤ 1000000 := HV.out.2.2.2.2.2.1 _ (getA_mem hgs)
   have hol : (outsOf s (ts.take k)).length ≤ 1000000 := by unfold outsOf; rw [List.length_map, List.length_take]; omega
   have y6 : wr.cell? ⟨g, 7, none⟩ = some v.outcomes := (HV.out.1.ext (H2.out.2.2.tr hbl)).cell 7
   rw [HV.out.2.2.2.2.2.2.2.2] at y6
   have HO := jh (ja hown (ja hbl (ja hoff (ja hts (ja k1 (ja k2 (ja k3 hfit)))))))
   have hMVr : MapV wr (.map (some m)) (LA.map fun p => (p.1, aggV p.2.2)) := by rw [← HV.out.2.2.2.2.2.2.2.2]; exact hMVr
   have HMX := jh hMVr
   clear hmem hlk hown hbl hoff hts k1 k2 k3 hfit hgs hMVr
   go_upto_region 6 with fail
   have hbx := (jb wr.heap.size wr).al (.cells #[.int .i64 t.node, .int .i64 t.life, .int .i64 t.num] 42)
   have BX := Blk.new wr 42 [.int .i64 t.node, .int .i64 t.life, .int .i64 t.num]
   have hzx : wr.heap.size < (wr.alloc (.cells #[.int .i64 t.node, .int .i64 t.life, .int .i64 t.num] 42)).heap.size := by simp
   have z6 : (wr.alloc (.cells #[.int .i64 t.node, .int .i64 t.life, .int .i64 t.num] 42)).cell? ⟨g, 7, none⟩ = some (.map (some m)) := by
    have := (HV.out.1.ext ((H2.out.2.2.tr HO.out.2.1).tr hbx)).cell 7
    rw [this, ← HV.out.2.2.2.2.2.2.2.2]; rfl
   generalize (wr.alloc (.cells #[.int .i64 t.node, .int .i64 t.life, .int .i64 t.num] 42)) = wx at *
   have z6 := On.cell z6
   have x0 := On.cell (BX.cell 0 : wx.cell? ⟨wr.heap.size, 0, none⟩ = some (.int .i64 t.node))
   have x1 := On.cell (BX.cell 1 : wx.cell? ⟨wr.heap.size, 1, none⟩ = some (.int .i64 t.life))
   have x2 := On.cell (BX.cell 2 : wx.cell? ⟨wr.heap.size, 2, none⟩ = some (.int .i64 t.num))
   have HMV := jh (fun (W : World) (hW : ∃ d : Wd (On wx), W = d.w) => (show MapV W (.map (some m)) (LA.map fun p => (p.1, aggV p.2.2)) from by obtain ⟨d, rfl⟩ := hW; exact HMX.out.ext (hbx.tr d.ok)))
   have hzr := HO.out.2.1.size
   have hz2 := H2.out.2.2.size
   have HBX := jh hbx
   clear hbx BX y6 e0 e1 e2
   refine wp_region_mix (.seg [0, 1, 2, 3, 4, 5] 6 (.seg [] 7 (.leaf []))) (fun w' => ∃ d : Wd (On wx), w' = d.w) (by kernel_rfl) (by kernel_rfl) (fun _ _ d _ _ h => by cases d <;> exact h) (ClsW.mk (jb _ _).drew) ?_
   unfold wpMix; simp only [pick, j1, j2, j3, j4]
   (repeat (show wpQuiet _ _ _ _ (_ :: _) _; first | (refine wpQuiet_lookup_v _ rfl (.tmp 22) (.tmp 23) 173 false rfl Tryz.underlying173 rfl HMV.out t rfl hq _ zero_outcome ?_; simp only [Bool.false_eq_true, if_false, Option.getD_some]; unfold Outcome.cellsV; go_simp) | go_big_quiet_step (fail))); refine qn ?_
   go_wp2_with fail
   have hb7 := ((jb wx.heap.size wx).al (.cells Outcome.zeros.toArray 213)).drew
   unfold Outcome.zeros at hb7
   (refine segw (D := On wx) (hb7) ?_; unfold wpMix; simp only [pick, j1, j2, j3, j4]; (repeat (show wpQuiet _ _ _ _ (_ :: _) _; go_big_quiet_step (fail))); refine qn ?_)
   refine wpList_store_blk (cs := h.cellsV fA fc) rfl rfl rfl rfl rfl ((Blk.new wx 213 Outcome.zeros).ext (jb _ _).drew) (by kernel_rfl) rfl (by simp [Outcome.cellsV, Value.oneCell']) ?_
   intro w8 hB8 hO8 hz8
   have hb8 : Below wx.heap.size wx w8 := hb7.trans (hO8.low (fun q e => by have e' : q = wx.heap.size := e; omega) hb7.size)
   have hsz8 := hb8.size
   (refine segw (D := On wx) (hb8) ?_; unfold wpMix; simp only [pick, j2]; (repeat (show wpQuiet _ _ _ _ (_ :: _) _; go_big_quiet_step (fail))); refine qn ?_)
   clear z6 x0 x1 x2
   have x7 : w8.cell? ⟨wx.heap.size, 7, none⟩ = some (.slice fA h.nodes.length fc) := hB8.cell 7
   have CC := clone_int fA fc h.nodes P w8 ((HO.out.2.2.2.2.2.2.1).2.2.same (js (HBX.out.tr hb8)) (HBX.out.tr hb8).size) (by have := HO.out.2.2.2.2.2.2.2; omega)
   unfold GotOwn at CC
   have H8 := jh (ja hB8 hb8)
   clear hb7 hb8 hB8 hO8
   go_wp2_with fail
   refine CC.mono ?_
   clear CC
   rintro e w9 ⟨⟨v9, rfl, ho9⟩, hb9⟩
   obtain ⟨A9, c9, rfl, hc91, hc92⟩ := ho9.form
   have hB9 := H8.out.1.ext hb9
   have y7 : w9.cell? ⟨wx.heap.size, 7, none⟩ = some (.slice fA h.nodes.length fc) := hB9.cell 7
   have f7 := hB9.frozen 7
   have hlt8 := H8.out.1.lt
   have H9 := jh (ja hB9 (ja (H8.out.2.tr hb9) (ja ((ho9.mono (S' := fun _ => True) fun _ _ _ => trivial).plain int_plain (S' := fun _ => False)) (ja hc91 hc92))))
   clear x7 hB9 ho9 hb9 hc91 hc92
   go_upto_region 8 with fail
   have hrow9 : IntR.Row w9 (fun q => w8.heap.size ≤ q) A9 h.nodes := H9.out.2.2.1.row' int_plain fun q hq => (H9.out.2.2.1.lt q hq).1
   have hB10 := H9.out.1.set_ 7 (.slice A9 h.nodes.length c9)
   have hO10 : Only (· = wx.heap.size) w9 (w9.setCell ⟨wx.heap.size, 7, none⟩ (.slice A9 h.nodes.length c9)) := Only.set_ (F := (· = wx.heap.size)) rfl _
   have hb10 : Below wx.heap.size wx (w9.setCell ⟨wx.heap.size, 7, none⟩ (.slice A9 h.nodes.length c9)) := H9.out.2.1.trans (hO10.low (fun q e => by have e' : q = wx.heap.size := e; omega) H9.out.2.1.size)
   have hrow10 : IntR.Row (w9.setCell ⟨wx.heap.size, 7, none⟩ (.slice A9 h.nodes.length c9)) (fun q => wx.heap.size ≤ q) A9 h.nodes := (hrow9.same (Same.of_only hO10 fun q hq e => by have e' : q = wx.heap.size := e; have hq' : w8.heap.size ≤ q := hq; omega) hO10.size).mono fun q hq _ => by have hq' : w8.heap.size ≤ q := hq; omega
   generalize w9.setCell ⟨wx.heap.size, 7, none⟩ (.slice A9 h.nodes.length c9) = w10 at *
   have hB10' : Blk w10 wx.heap.size 213 (h.cellsV A9 c9) := hB10
   have a0 : w10.cell? ⟨wx.heap.size, 0, none⟩ = some (.int .i64 h.tx.node) := hB10'.cell 0
   have a1 : w10.cell? ⟨wx.heap.size, 1, none⟩ = some (.int .i64 h.tx.life) := hB10'.cell 1
   have a2 : w10.cell? ⟨wx.heap.size, 2, none⟩ = some (.int .i64 h.tx.num) := hB10'.cell 2
   have a3 : w10.cell? ⟨wx.heap.size, 3, none⟩ = some (.bool h.yes) := hB10'.cell 3
   have a4 : w10.cell? ⟨wx.heap.size, 4, none⟩ = some (.int .i64 h.stamp.wall) := hB10'.cell 4
   have a5 : w10.cell? ⟨wx.heap.size, 5, none⟩ = some (.int .i64 h.stamp.logic) := hB10'.cell 5
   have a6 : w10.cell? ⟨wx.heap.size, 6, none⟩ = some (.int .i64 h.stamp.node) := hB10'.cell 6
   have a7 : w10.cell? ⟨wx.heap.size, 7, none⟩ = some (.slice A9 h.nodes.length c9) := hB10'.cell 7
   have hrep : OutcomeR.rep w10 (fun q => wx.heap.size ≤ q) (h.cellsV A9 c9) h := outcome_rep.2 ⟨A9, c9, rfl, HO.out.2.2.2.2.1, HO.out.2.2.2.2.2.1, ⟨H9.out.2.2.2.1, H9.out.2.2.2.2, hrow10⟩⟩
   have hz10 := hb10.size
   have H10 := jh (ja (HO.out.1.ext (HBX.out.tr hb10)) (ja hrep hb10))
   obtain ⟨i0, r1, r2, r3, r4⟩ := info_parts outcome_info
   clear hB10 hB10' hO10 hb10 hrow9 hrow10 y7 f7 hrep
   go_wp2_with (first
    | (at_builtin; refine wpList_append_new (R := OutcomeR) (cs := h.cellsV A9 c9) w10 rfl (.tmp 29) (.tmp 31) _ rfl w.heap.size 213 i0 _ 80 Tryz.underlying85 r1 r2 r3 r4 rfl _ (outsOf s (ts.take k)) (fun q => w.heap.size ≤ q) rfl H10.out.1 (fun _ h => h) rfl (fun q => wx.heap.size ≤ q) h H10.out.2.1 (fun q h1 h2 => ⟨by omega, fun e => by
     have h3 := (HO.out.1.lt q e.symm).2
     omega⟩) (by unfold maxLen; omega) (by omega) (by omega) ?_; intro v8 w11 ho8 hg8 hat8 hne8 hb8')
    | fail)
   have hoff8 : ∀ q, (Value.slice Ao (outsOf s (List.take k ts)).length co).ownBlock = some q → w2.heap.size ≤ q ∧ q < wr.heap.size := fun q e => ⟨HO.out.2.2.1 q e, (HO.out.1.lt q e).2⟩
   have hbr : Below w2.heap.size w2 w10 := HO.out.2.1.tr (HBX.out.tr H10.out.2.2)
   have hb11 : Below w2.heap.size w2 w11 := ⟨hg8.os.trans hbr.os, hg8.tape.trans hbr.tape, hg8.output.trans hbr.output, Nat.le_trans hbr.size hg8.size, fun q hq => (hg8.block q (by omega) (fun e => by have := (hoff8 q e.symm).1; omega)).trans (hbr.block q hq)⟩
   obtain ⟨A8, c8, rfl, _⟩ := ho8.form
   have hl8 : (outsOf s (List.take k ts) ++ [h]).length = (outsOf s (List.take k ts)).length + 1 := by simp
   rw [hl8] at ho8 hat8 ⊢
   have H11 := jh (ja ho8 (ja hb11 hat8))
   clear hl8 ho8 hg8 hne8 hb8' hb11 hoff8 hbr r1 r2 r3 r4 a0 a1 a2 a3 a4 a5 a6 a7
   go_wp2_with fail
   go_round
   case rel => exact ⟨k + 1, by omega, by go_num, by rw [HO.out.2.2.2.1]; exact H11.out.1, H11.out.2.1, fun q e => by
    rcases H11.out.2.2 with h | h
    ·rw [h] at e; exact HO.out.2.2.1 q e
    ·rw [h] at e; injection e with e; omega⟩
   case measure => simp [intOf]; omega
  ·have hkn : k = ts.length := by omega
   subst hkn
   rw [List.take_length] at hown ⊢
   have HO := jh (ja hown hbl)
   clear hown hbl hoff
   go_wp2_with fail
   go_ret
   exact ⟨⟨_, _, rfl, outsOf_perm HV.out.2.2.2.2.1 H2.out.1, HO.out.1⟩, H2.out.2.2.tr HO.out.2⟩
end Go.Proofs.YtcmjgghkmdbphaaGreatDoor
namespace Go.Proofs.YtcmjgghkmdbphaaGreatDoor
open Go.RowKit
section
variable {P : Program} {ops : Array Oper} {rest : List Oper} {o : Oper} {a : Act}
theorem run_load_at {w : World} {ty : TypeId} {b off : Nat} {cs : List Value} {d : TypeDesc} (hg : ∀ j u, cs[j]? = some u → w.cell? ⟨b, off + j, none⟩ = some u) (hu : P.underlying ty = some d) (hd : (match d with | .struct _ | .array _ _ => true | _ => false) = true) (hi : (P.info? ty).map (·.size) = some cs.length) :
 (loadVar ty ⟨b, off, none⟩).run P w = .ok (.agg cs.toArray) w := by
 have hl : (loadCells ⟨b, off, none⟩ cs.length).run P w = .ok cs.toArray w :=
  run_loadCells_list (P := P) w ⟨b, off, none⟩ cs (fun j v hv => by rw [add_off]; exact hg j v hv)
 cases hq : P.info? ty with
 | none => simp [hq] at hi
 | some i =>
   have hs : i.size = cs.length := by simpa [hq] using hi
   have hagg : (isAgg ty).run P w = .ok true w := by
    unfold isAgg
    rw [Sem.run_bind, run_underlying hu w]
    cases d <;> simp_all
   simp [loadVar, Sem.run_bind, hagg, sizeOf, typeInfo, hq, hs, hl]
theorem wpQuiet_load_at {C : World → Prop} {Q : Act → Prop} (hw : Region.wanted o (yielded ops a.tmps) = true) {ty : TypeId} {x : Operand} (ho : o.op = .load ty x) {b off : Nat} (hx : a.eval x = .pointer (some ⟨b, off, none⟩)) {cs : List Value} {d : TypeDesc}
 (hg : ∀ w, C w → ∀ j u, cs[j]? = some u → w.cell? ⟨b, off + j, none⟩ = some u) (hu : P.underlying ty = some d) (hd : (match d with | .struct _ | .array _ _ => true | _ => false) = true) (hi : (P.info? ty).map (·.size) = some cs.length)
 (h : wpQuiet P ops C Q rest (a.put o.dst (.agg cs.toArray))) : wpQuiet P ops C Q (o :: rest) a := by
 refine BigFrame.wpQuiet_want hw fun K hK => ⟨.agg cs.toArray, fun w hC => ?_, hK _ h⟩
 unfold Oper.quietAt execOp
 simp only [ho, hx, Instr.loadAt, Instr.sureAddr, Sem.run_bind, Sem.run_pure, Result.andThen_ok, run_load_at (hg w hC) hu hd hi, Oper.quietUpon, and_self]
end
end Go.Proofs.YtcmjgghkmdbphaaGreatDoor
