/- ring.Merge. -/
import Derived.Test.YtpgocpodhamibaaGreatDoorN05
import Derived.Test.YtpgocpodhamibaaGreatDoorN06
import Derived.Laws.StructEq
namespace Go.Proofs.YtpgocpodhamibaaGreatDoor
open Go.RowKit
def RunR : Rep RunP := (RangeR.cat (RangeR.cat IntR)).via fun s => (s.r, s.src, s.who)
def RunP.cells (y : RunP) : List Value := [.int .i64 y.r.first, .int .i64 y.r.last, .int .i64 y.r.owner, .int .i64 y.r.epoch, .int .i64 y.src.first, .int .i64 y.src.last, .int .i64 y.src.owner, .int .i64 y.src.epoch, .int .i64 y.who]
def RunP.fit (y : RunP) : Prop := y.r.fit ∧ y.src.fit ∧ i64 y.who
theorem run_rep {w : World} {P : Nat → Prop} {cs : List Value} {y : RunP} : RunR.rep w P cs y ↔ cs = y.cells ∧ y.fit := by
 constructor
 ·rintro ⟨c1, c2, rfl, h1, c3, c4, rfl, h2, ⟨rfl, h3⟩⟩
  obtain ⟨rfl, g1⟩ := range_rep.1 h1
  obtain ⟨rfl, g2⟩ := range_rep.1 h2
  exact ⟨rfl, g1, g2, h3⟩
 ·rintro ⟨rfl, h1, h2, h3⟩
  exact ⟨_, _, rfl, range_rep.2 ⟨rfl, h1⟩, _, [_], rfl, range_rep.2 ⟨rfl, h2⟩, ⟨rfl, h3⟩⟩
theorem RunR_size : RunR.size = 9 := rfl
theorem run_info : (Tryz.prog.info? 265).map (fun i => (i.zero, i.size, i.bytes)) = some (some (.agg #[.int .i64 0, .int .i64 0, .int .i64 0, .int .i64 0, .int .i64 0, .int .i64 0, .int .i64 0, .int .i64 0, .int .i64 0]), 9, 72) := by kernel_rfl
theorem own_run_last {w : World} {B e : Nat} {S : Nat → Prop} {v : Value} {l : List RunP} {y : RunP} {z : Int} (h : RunR.Own w B e S v (l ++ [y])) (hz : i64 z) :
 ∃ g c, v = .slice (some ⟨g, 0, none⟩) (l.length + 1) c ∧ B ≤ g ∧ g < w.heap.size ∧ RunR.Own (w.setCell ⟨g, l.length * 9 + 1, none⟩ (.int .i64 z)) B e S v (l ++ [{ y with r := { y.r with last := z } }]) ∧ w.frozen? ⟨g, l.length * 9 + 1, none⟩ = false ∧ (∃ x, w.cell? ⟨g, l.length * 9 + 1, none⟩ = some x) := by
 obtain ⟨g, c, hv, hB, hg, hn, h1, h2, h3⟩ := h.set_ (k := l.length) (j := 1) (u := .int .i64 z) (a := y) (a' := { y with r := { y.r with last := z } }) (by simp) (by decide) rfl (fun cs hcs => by
  obtain ⟨rfl, hq⟩ := run_rep.1 hcs
  exact run_rep.2 ⟨rfl, ⟨⟨hq.1.1, hz, hq.1.2.2.1, hq.1.2.2.2⟩, hq.2⟩⟩)
 refine ⟨g, c, by rw [hv]; simp, hB, hg, ?_, h2, h3⟩
 have e : (l ++ [y]).set l.length { y with r := { y.r with last := z } } = l ++ [{ y with r := { y.r with last := z } }] := by simp
 rw [e] at h1
 exact h1
theorem pushR_nil (x : RunP) : pushR [] x = [x] := rfl
theorem pushR_hit {l : List RunP} {x y : RunP} (h : y.who = x.who ∧ y.src = x.src) : pushR (l ++ [y]) x = l ++ [{ y with r := { y.r with last := x.r.last } }] := by
 unfold pushR; simp [h]
theorem pushR_miss {l : List RunP} {x y : RunP} (h : ¬ (y.who = x.who ∧ y.src = x.src)) : pushR (l ++ [y]) x = l ++ [y] ++ [x] := by
 unfold pushR; simp [h]
theorem pushR_len (l : List RunP) (x : RunP) : (pushR l x).length ≤ l.length + 1 := by
 rcases List.eq_nil_or_concat l with rfl | ⟨l', y, rfl⟩
 ·simp [pushR_nil]
 ·rw [List.concat_eq_append]
  by_cases h : y.who = x.who ∧ y.src = x.src
  ·rw [pushR_hit h]; simp
  ·rw [pushR_miss h]; simp
def preR (self : Int) (a b : Range) : RunP := if newerB self a b then ⟨b, b, 2⟩ else ⟨a, a, 1⟩
theorem stepM_pre (self : Int) (a b : Range) : stepM self a b = { preR self a b with r := { (preR self a b).r with first := max a.first b.first, last := min a.last b.last } } := by
 unfold stepM preR; split <;> rfl
set_option maxRecDepth 20000 in
set_option maxHeartbeats 6400000 in
theorem merge_any (A : Option Addr) (c : Nat) (mine : List Range) (A' : Option Addr) (c' : Nat) (theirs : List Range) (self : Int) (P P' : Nat → Prop) (w : World) (hr : RangeR.Row w P A mine) (hr' : RangeR.Row w P' A' theirs) (hl : mine.length ≤ 1000000) (hl' : theirs.length ≤ 1000000) :
 Calls Tryz.prog 117 #[.slice A mine.length c, .slice A' theirs.length c', .int .i64 self] w fun e w' => GotOwn RangeR w.heap.size 40 (fun _ => False) (mergeR self mine theirs) e w' ∧ Below w.heap.size w w' := by
 have C1 := soundR_any A c mine _ w hr hl
 have HR := jh (ja (hr.mono (Q := fun g => g < w.heap.size) fun g _ h => h) (hr'.mono (Q := fun g => g < w.heap.size) fun g _ h => h))
 have CL := jh (fun W (hW : Below w.heap.size w W) => clone_Range A c mine _ W (hr.ext hW) (by omega))
 have HM := jh (show mergeR self mine theirs = (if soundR mine = false ∨ soundR theirs = false then mine else if 64 < (mergeL self mine theirs).length then mine else (mergeL self mine theirs).map RunP.r) from rfl)
 clear hr hr'
 go_enter Tryz.func117, Tryz.ntmps117
 go_wp2_with fail
 refine C1.mono ?_
 clear C1
 rintro e w1 ⟨rfl, hb1⟩
 have HB1 := jh hb1
 clear hb1
 cases hsm : soundR mine
 ·have HE := jh (HM.out.trans (if_pos (.inl hsm)))
  clear hsm
  have C2 := CL.out w1 HB1.out
  unfold GotOwn at C2
  go_wp2_with fail
  refine C2.mono ?_
  clear C2
  rintro e w2 ⟨⟨v2, rfl, ho⟩, hb2⟩
  have HO := jh (ja ho hb2)
  clear ho hb2
  go_wp2_with fail
  go_ret
  rw [HE.out]
  exact ⟨⟨_, rfl, (HO.out.1.plain range_plain).base' HB1.out.size⟩, HB1.out.tr HO.out.2⟩
 have C2 := soundR_any A' c' theirs _ w1 (HR.out.2.ext HB1.out) hl'
 go_wp2_with fail
 refine C2.mono ?_
 clear C2
 rintro e w2 ⟨rfl, hb2⟩
 have HB2 := jh (HB1.out.tr hb2)
 clear hb2
 cases hst : soundR theirs
 ·have HE := jh (HM.out.trans (if_pos (.inr hst)))
  clear hsm hst
  have C2 := CL.out w2 HB2.out
  unfold GotOwn at C2
  go_wp2_with fail
  refine C2.mono ?_
  clear C2
  rintro e w3 ⟨⟨v3, rfl, ho⟩, hb3⟩
  have HO := jh (ja ho hb3)
  clear ho hb3
  go_wp2_with fail
  go_ret
  rw [HE.out]
  exact ⟨⟨_, rfl, (HO.out.1.plain range_plain).base' HB2.out.size⟩, HB2.out.tr HO.out.2⟩
 have HE := jh (HM.out.trans (if_neg (by rw [hsm, hst]; simp)))
 have HSS := jh (ja hsm hst)
 clear hsm hst
 go_wp2_with fail
 go_loopw [7, 8, 9] (fun rv iv kv wr => ∃ (i k n : Nat) (L : List RunP), i ≤ mine.length ∧ k ≤ theirs.length ∧ iv = .int .i64 i ∧ kv = .int .i64 k ∧ (mine.length - i) + (theirs.length - k) ≤ n ∧ runsR self n (mine.drop i) (theirs.drop k) L = mergeL self mine theirs ∧ L.length ≤ i + k ∧ RunR.Own wr w2.heap.size 265 (fun _ => True) rv L ∧ Below w2.heap.size w2 wr) (fun _ iv kv _ => (mine.length - (intOf iv).toNat) + (theirs.length - (intOf kv).toNat))
 case atStart => exact ⟨0, 0, _, [], Nat.zero_le _, Nat.zero_le _, rfl, rfl, Nat.le_refl _, rfl, Nat.le_refl _, Rep.Own.nil_, jb _ _⟩
 case round =>
  obtain ⟨i, k, n, L, hi, hk, rfl, rfl, hn, hrun, hll, hown, hbl⟩ := hrel
  obtain ⟨Ao, co, rfl, _⟩ := hown.form
  have HI := jh (ja hrun (ja hown hbl))
  clear hrun hown hbl
  by_cases hlt : i < mine.length
  ·have hlt' : (i : Int) < mine.length := by omega
   by_cases hkt : k < theirs.length
   ·have hkt' : (k : Int) < theirs.length := by omega
    have hlk := List.getElem?_eq_getElem hlt
    have hkk := List.getElem?_eq_getElem hkt
    have hd1 := List.drop_eq_getElem_cons hlt
    have hd2 := List.drop_eq_getElem_cons hkt
    obtain ⟨m, rfl⟩ : ∃ m, n = m + 1 := ⟨n - 1, by omega⟩
    have hrw := HB2.out.tr HI.out.2.2
    obtain ⟨ba, oa, csa, rfl, _, _, hra, hca⟩ := (HR.out.1.ext hrw).at_ hlk
    obtain ⟨bb, ob, csb, rfl, _, _, hrb, hcb⟩ := (HR.out.2.ext hrw).at_ hkk
    generalize mine[i] = a at *
    generalize theirs[k] = b at *
    obtain ⟨rfl, hfa⟩ := range_rep.1 hra
    obtain ⟨rfl, hfb⟩ := range_rep.1 hrb
    have HX := jh (show runsR self m (if a.last = min a.last b.last then mine.drop (i + 1) else mine.drop i) (if b.last = min a.last b.last then theirs.drop (k + 1) else theirs.drop k) (pushR L (stepM self a b)) = mergeL self mine theirs from by
     rw [← HI.out.1, hd1, hd2]; rfl)
    have HF := jh (ja hfa hfb)
    have c0 := hca 0 _ rfl; have c1 := hca 1 _ rfl; have c2 := hca 2 _ rfl; have c3 := hca 3 _ rfl; simp only [RangeR_size, Nat.add_zero] at c0 c1 c2 c3
    have c0 := On.cell c0
    have c1 := On.cell c1
    have c2 := On.cell c2
    have c3 := On.cell c3
    have d0 := hcb 0 _ rfl
    have d1 := hcb 1 _ rfl
    have d2 := hcb 2 _ rfl
    have d3 := hcb 3 _ rfl
    simp only [RangeR_size, Nat.add_zero] at d0 d1 d2 d3
    have d0 := On.cell d0
    have d1 := On.cell d1
    have d2 := On.cell d2
    have d3 := On.cell d3
    have hlo := jb wr.heap.size wr
    clear hlk hkk hd1 hd2 hra hrb hca hcb hfa hfb hrw
    go_upto_region 6 with fail
    go_cut [10, 11] (fun av bv wx => ∃ ga gb : Nat, av = .pointer (some ⟨ga, 0, none⟩) ∧ bv = .pointer (some ⟨gb, 0, none⟩) ∧ Blk wx ga 40 a.cells ∧ Blk wx gb 40 b.cells ∧ ga ≠ gb ∧ wr.heap.size ≤ ga ∧ wr.heap.size ≤ gb ∧ Below wr.heap.size wr wx)
    case first =>
     refine wp_region_mix (.fork [0, 1, 2, 3, 4, 5, 6, 7] 8 (.seg [] 9 (.seg [] 10 (.seg [] 11 (.leaf [])))) 9 (.seg [] 8 (.seg [] 10 (.seg [] 11 (.leaf []))))) (fun w' => ∃ d : Wd (On wr), w' = d.w) (by kernel_rfl) (by kernel_rfl) (fun _ _ d _ _ h => by cases d <;> exact h) (ClsW.mk hlo.drew) ?_
     unfold wpMix; simp only [pick, j1, j2, j3, j4]
     (repeat (show wpQuiet _ _ _ _ (_ :: _) _; go_big_quiet_step (fail))); refine qn ?_
     constructor
     ·go_wp2_with fail
      have hba := (jb wr.heap.size wr).al (.cells #[.int .i64 0, .int .i64 0, .int .i64 0, .int .i64 0] 40)
      (dsimp only [wpList, SegQ]; refine ⟨fun w' => ∃ d : Wd (On wr), w' = d.w, ClsW.mk (hba.drew), fun _ h => h, ?_⟩; unfold wpMix; simp only [pick, j1, j2, j3, j4]; (repeat (show wpQuiet _ _ _ _ (_ :: _) _; go_big_quiet_step (fail))); refine qn ?_)
      go_wp2_with fail
      have hbb := (hba.al (.cells #[.int .i64 0, .int .i64 0, .int .i64 0, .int .i64 0] 40)).drew
      (dsimp only [wpList, SegQ]; refine ⟨fun w' => ∃ d : Wd (On wr), w' = d.w, ClsW.mk (hbb), fun _ h => h, ?_⟩; unfold wpMix; simp only [pick, j1, j2, j3, j4]; (repeat (show wpQuiet _ _ _ _ (_ :: _) _; go_big_quiet_step (fail))); refine qn ?_)
      refine wpList_store_blk (cs := a.cells) rfl rfl rfl rfl rfl (((Blk.new wr 40 [.int .i64 0, .int .i64 0, .int .i64 0, .int .i64 0]).alloc (.cells #[.int .i64 0, .int .i64 0, .int .i64 0, .int .i64 0] 40)).ext (jb _ _).drew) (by kernel_rfl) rfl (by simp [Range.cells, Value.oneCell']) ?_
      intro w4 hB4 hO4 hz4
      have hN4 := ((Blk.new1 wr (.cells #[.int .i64 0, .int .i64 0, .int .i64 0, .int .i64 0] 40) 40 [.int .i64 0, .int .i64 0, .int .i64 0, .int .i64 0]).ext (jb _ _).drew).only hO4 (by simp)
      have hb4 := hbb.trans (hO4.low (fun k e => by have e' : k = wr.heap.size := e; omega) hbb.size)
      (dsimp only [wpList, SegQ]; refine ⟨fun w' => ∃ d : Wd (On wr), w' = d.w, ClsW.mk (hb4), fun _ h => h, ?_⟩; unfold wpMix; simp only [pick, j1, j2, j3, j4]; (repeat (show wpQuiet _ _ _ _ (_ :: _) _; go_big_quiet_step (fail))); refine qn ?_)
      refine wpList_store_blk (cs := b.cells) rfl rfl rfl rfl rfl hN4 (by kernel_rfl) rfl (by simp [Range.cells, Value.oneCell']) ?_
      intro w5 hB5 hO5 hz5
      have hA5 := hB4.only hO5 (by simp)
      have hb5 := hb4.trans (hO5.low (fun k e => by have e' : k = _ := e; rw [e']; simp) hb4.size)
      (dsimp only [wpList, SegQ]; refine ⟨fun w' => ∃ d : Wd (On wr), w' = d.w, ClsW.mk (hb5), fun _ h => h, ?_⟩; unfold wpMix; simp only [pick, j2]; (repeat (show wpQuiet _ _ _ _ (_ :: _) _; go_big_quiet_step (fail))); refine qn ?_)
      have HZ := jh (ja hA5 (ja hB5 hb5))
      go_wp2_with fail
      go_meet
      exact ⟨_, _, rfl, rfl, HZ.out.1, HZ.out.2.1, by simp, Nat.le_refl _, by simp, HZ.out.2.2⟩
     ·go_wp2_with fail
      have hba := (jb wr.heap.size wr).al (.cells #[.int .i64 0, .int .i64 0, .int .i64 0, .int .i64 0] 40)
      (dsimp only [wpList, SegQ]; refine ⟨fun w' => ∃ d : Wd (On wr), w' = d.w, ClsW.mk (hba.drew), fun _ h => h, ?_⟩; unfold wpMix; simp only [pick, j1, j2, j3, j4]; (repeat (show wpQuiet _ _ _ _ (_ :: _) _; go_big_quiet_step (fail))); refine qn ?_)
      go_wp2_with fail
      have hbb := (hba.al (.cells #[.int .i64 0, .int .i64 0, .int .i64 0, .int .i64 0] 40)).drew
      (dsimp only [wpList, SegQ]; refine ⟨fun w' => ∃ d : Wd (On wr), w' = d.w, ClsW.mk (hbb), fun _ h => h, ?_⟩; unfold wpMix; simp only [pick, j1, j2, j3, j4]; (repeat (show wpQuiet _ _ _ _ (_ :: _) _; go_big_quiet_step (fail))); refine qn ?_)
      refine wpList_store_blk (cs := a.cells) rfl rfl rfl rfl rfl ((Blk.new1 wr (.cells #[.int .i64 0, .int .i64 0, .int .i64 0, .int .i64 0] 40) 40 [.int .i64 0, .int .i64 0, .int .i64 0, .int .i64 0]).ext (jb _ _).drew) (by kernel_rfl) rfl (by simp [Range.cells, Value.oneCell']) ?_
      intro w4 hB4 hO4 hz4
      have hN4 := (((Blk.new wr 40 [.int .i64 0, .int .i64 0, .int .i64 0, .int .i64 0]).alloc (.cells #[.int .i64 0, .int .i64 0, .int .i64 0, .int .i64 0] 40)).ext (jb _ _).drew).only hO4 (by simp)
      have hb4 := hbb.trans (hO4.low (fun k e => by have e' : k = _ := e; rw [e']; simp) hbb.size)
      (dsimp only [wpList, SegQ]; refine ⟨fun w' => ∃ d : Wd (On wr), w' = d.w, ClsW.mk (hb4), fun _ h => h, ?_⟩; unfold wpMix; simp only [pick, j1, j2, j3, j4]; (repeat (show wpQuiet _ _ _ _ (_ :: _) _; go_big_quiet_step (fail))); refine qn ?_)
      refine wpList_store_blk (cs := b.cells) rfl rfl rfl rfl rfl hN4 (by kernel_rfl) rfl (by simp [Range.cells, Value.oneCell']) ?_
      intro w5 hB5 hO5 hz5
      have hA5 := hB4.only hO5 (by simp)
      have hb5 := hb4.trans (hO5.low (fun k e => by have e' : k = wr.heap.size := e; omega) hb4.size)
      (dsimp only [wpList, SegQ]; refine ⟨fun w' => ∃ d : Wd (On wr), w' = d.w, ClsW.mk (hb5), fun _ h => h, ?_⟩; unfold wpMix; simp only [pick, j2]; (repeat (show wpQuiet _ _ _ _ (_ :: _) _; go_big_quiet_step (fail))); refine qn ?_)
      have HZ := jh (ja hA5 (ja hB5 hb5))
      go_wp2_with fail
      go_meet
      exact ⟨_, _, rfl, rfl, HZ.out.1, HZ.out.2.1, by simp, by simp, Nat.le_refl _, HZ.out.2.2⟩
    case rest =>
     clear c0 c1 c2 c3 d0 d1 d2 d3 hlo
     obtain ⟨ga, gb, rfl, rfl, hA, hB, hne, hga, hgb, hbc⟩ := hcut
     have a0 : wc.cell? ⟨ga, 0, none⟩ = some (.int .i64 a.first) := hA.cell 0
     have a1 : wc.cell? ⟨ga, 1, none⟩ = some (.int .i64 a.last) := hA.cell 1
     have a2 : wc.cell? ⟨ga, 2, none⟩ = some (.int .i64 a.owner) := hA.cell 2
     have a3 : wc.cell? ⟨ga, 3, none⟩ = some (.int .i64 a.epoch) := hA.cell 3
     have HC := jh (ja hA (ja hB (ja hbc (ja hga hgb))))
     have hza := hA.lt
     have hzb := hB.lt
     clear hA hB hbc
     go_upto_region 7 with fail
     generalize hw3 : wc = w3 at *
     clear hw3
     go_cut [12] (fun xv wx => xv = .pointer (some ⟨w3.heap.size, 0, none⟩) ∧ wx = w3.alloc (.cells (RunP.cells ⟨a, a, 1⟩).toArray 265))
     case first =>
      go_wp2_with fail
      go_meet
      exact ⟨rfl, rfl⟩
     case rest =>
     obtain ⟨rfl, rfl⟩ := hcut
     clear a0 a1 a2 a3
     have hb4 := (jb w3.heap.size w3).al (.cells (RunP.cells ⟨a, a, 1⟩).toArray 265)
     have B4 := Blk.new w3 265 (RunP.cells ⟨a, a, 1⟩)
     have hz4 : (w3.alloc (.cells (RunP.cells ⟨a, a, 1⟩).toArray 265)).heap.size = w3.heap.size + 1 := by simp
     generalize hw4 : w3.alloc (.cells (RunP.cells ⟨a, a, 1⟩).toArray 265) = w4 at *
     clear hw4
     have a2 : w4.cell? ⟨ga, 2, none⟩ = some (.int .i64 a.owner) := (HC.out.1.ext hb4).cell 2
     have a3 : w4.cell? ⟨ga, 3, none⟩ = some (.int .i64 a.epoch) := (HC.out.1.ext hb4).cell 3
     have b2 : w4.cell? ⟨gb, 2, none⟩ = some (.int .i64 b.owner) := (HC.out.2.1.ext hb4).cell 2
     have b3 : w4.cell? ⟨gb, 3, none⟩ = some (.int .i64 b.epoch) := (HC.out.2.1.ext hb4).cell 3
     go_step
     go_step
     go_cut [12] (fun xv wx => xv = .pointer (some ⟨w3.heap.size, 0, none⟩) ∧ Blk wx w3.heap.size 265 (preR self a b).cells ∧ Only (· = w3.heap.size) w4 wx)
     case first =>
      have HW := jh (ja B4 (ja (HC.out.1.ext hb4) (HC.out.2.1.ext hb4)))
      clear B4 hb4
      have hcase : a.owner = self ∨ (a.owner ≠ self ∧ b.owner = self) ∨ (a.owner ≠ self ∧ b.owner ≠ self ∧ ¬ a.epoch < b.epoch) ∨ (a.owner ≠ self ∧ b.owner ≠ self ∧ a.epoch < b.epoch) := by omega
      rcases hcase with h | ⟨h1, h2⟩ | ⟨h1, h2, h3⟩ | ⟨h1, h2, h3⟩
      ·have HN := jh (show preR self a b = ⟨a, a, 1⟩ from if_neg fun q => q.1 h)
       have g1 : (a.owner != self) = false := by rw [bne_eq_false_iff_eq]; exact h
       clear h
       go_wp2_with fail
       go_meet
       exact ⟨rfl, by rw [HN.out]; exact HW.out.1, Only.refl _ _⟩
      ·have HN := jh (show preR self a b = ⟨a, a, 1⟩ from if_neg fun q => q.2.1 h2)
       have g1 : (a.owner != self) = true := bne_iff_ne.2 h1
       have g2 : (b.owner != self) = false := by rw [bne_eq_false_iff_eq]; exact h2
       clear h1 h2
       go_wp2_with fail
       go_meet
       exact ⟨rfl, by rw [HN.out]; exact HW.out.1, Only.refl _ _⟩
      ·have HN := jh (show preR self a b = ⟨a, a, 1⟩ from if_neg fun q => h3 q.2.2)
       have g1 : (a.owner != self) = true := bne_iff_ne.2 h1
       have g2 : (b.owner != self) = true := bne_iff_ne.2 h2
       have g3 : decide (a.epoch < b.epoch) = false := decide_eq_false h3
       clear h1 h2 h3
       go_wp2_with fail
       go_meet
       exact ⟨rfl, by rw [HN.out]; exact HW.out.1, Only.refl _ _⟩
      ·have HN := jh (show preR self a b = ⟨b, b, 2⟩ from if_pos ⟨h1, h2, h3⟩)
       have g1 : (a.owner != self) = true := bne_iff_ne.2 h1
       have g2 : (b.owner != self) = true := bne_iff_ne.2 h2
       have b0 : w4.cell? ⟨gb, 0, none⟩ = some (.int .i64 b.first) := HW.out.2.2.cell 0
       have b1 : w4.cell? ⟨gb, 1, none⟩ = some (.int .i64 b.last) := HW.out.2.2.cell 1
       clear h1 h2
       have x0 := HW.out.1.cell 0
       have f0 := HW.out.1.frozen 0
       have x1 := HW.out.1.cell 1
       have f1 := HW.out.1.frozen 1
       have x2 := HW.out.1.cell 2
       have f2 := HW.out.1.frozen 2
       have x3 := HW.out.1.cell 3
       have f3 := HW.out.1.frozen 3
       have x4 := HW.out.1.cell 4
       have f4 := HW.out.1.frozen 4
       have x5 := HW.out.1.cell 5
       have f5 := HW.out.1.frozen 5
       have x6 := HW.out.1.cell 6
       have f6 := HW.out.1.frozen 6
       have x7 := HW.out.1.cell 7
       have f7 := HW.out.1.frozen 7
       have x8 := HW.out.1.cell 8
       have f8 := HW.out.1.frozen 8
       simp only [RunP.cells, List.getElem?_cons_zero, List.getElem?_cons_succ] at x0 x1 x2 x3 x4 x5 x6 x7 x8
       go_wp2_with fail
       go_meet
       exact ⟨rfl, by rw [HN.out]; exact ((((((((HW.out.1.set_ 0 _).set_ 1 _).set_ 2 _).set_ 3 _).set_ 4 _).set_ 5 _).set_ 6 _).set_ 7 _).set_ 8 _, (((((((((Only.refl _ _).tr (Only.set_ (F := (· = w3.heap.size)) rfl _)).tr (Only.set_ (F := (· = w3.heap.size)) rfl _)).tr (Only.set_ (F := (· = w3.heap.size)) rfl _)).tr (Only.set_ (F := (· = w3.heap.size)) rfl _)).tr (Only.set_ (F := (· = w3.heap.size)) rfl _)).tr (Only.set_ (F := (· = w3.heap.size)) rfl _)).tr (Only.set_ (F := (· = w3.heap.size)) rfl _)).tr (Only.set_ (F := (· = w3.heap.size)) rfl _)).tr (Only.set_ (F := (· = w3.heap.size)) rfl _)⟩
     case rest =>
     obtain ⟨rfl, hX, hO5⟩ := hcut
     have hz5 := hO5.size
     have hD : ArD ga gb a b wc := ⟨(HC.out.1.ext hb4).only hO5 (by omega), (HC.out.2.1.ext hb4).only hO5 (by omega)⟩
     have HD5 := jh (ja hD (ja hX (hb4.trans (hO5.low (B := w3.heap.size) (fun q e => by have e' : q = w3.heap.size := e; omega) (by omega)))))
     clear a2 a3 b2 b3 hb4 B4 hO5
     generalize hw5 : wc = w5 at *
     clear hw5
     go_step
     go_step
     go_cut [12] (fun xv wx => xv = .pointer (some ⟨w3.heap.size, 0, none⟩) ∧ Blk wx w3.heap.size 265 (stepM self a b).cells ∧ Only (· = w3.heap.size) w5 wx)
     case first =>
      haveI : Nonempty (Wd (ArD ga gb a b)) := ⟨⟨_, hD⟩⟩
      have y0 := ArD.x0 (xb := ga) (rb := gb) (x := a) (r := b)
      have y1 := ArD.x1 (xb := ga) (rb := gb) (x := a) (r := b)
      have z0 := ArD.r0 (xb := ga) (rb := gb) (x := a) (r := b)
      have z1 := ArD.r1 (xb := ga) (rb := gb) (x := a) (r := b)
      have HP := jh (stepM_pre self a b)
      have hX0 := hX.drew
      generalize preR self a b = x0 at *
      refine wp_region_mix (.seg [0, 1, 2, 3, 4, 5, 6, 7, 8, 9, 10, 11] 12 (.seg [13, 14] 15 (.leaf []))) (fun w' => ∃ d : Wd (ArD ga gb a b), w' = d.w) (by kernel_rfl) (by kernel_rfl) (fun _ _ d _ _ h => by cases d <;> exact h) (ClsW.mk (D := ArD ga gb a b) ⟨hD.x.drew, hD.r.drew⟩) ?_
      unfold wpMix; simp only [pick, j1, j2, j3, j4]
      (repeat (show wpQuiet _ _ _ _ (_ :: _) _; go_big_quiet_step (fail))); refine qn ?_
      obtain ⟨mx, hmx⟩ : ∃ q, q = max a.first b.first := ⟨_, rfl⟩
      obtain ⟨mn, hmn⟩ : ∃ q, q = min a.last b.last := ⟨_, rfl⟩
      rw [← hmx, ← hmn]
      rw [← hmx, ← hmn] at HP
      clear hmx hmn
      have cx : w5.drew.cell? ⟨w3.heap.size, 0, none⟩ = some (.int .i64 x0.r.first) := hX0.cell 0
      have fx := hX0.frozen 0
      go_wp2_with fail
      have hO6 : Only (· = w3.heap.size) w5 ((w5.setCell ⟨w3.heap.size, 0, none⟩ (.int .i64 mx)).drew) := (Only.set_ (F := (· = w3.heap.size)) rfl _).tr Only.drew
      have hD2 : ArD ga gb a b ((w5.setCell ⟨w3.heap.size, 0, none⟩ (.int .i64 mx)).drew) := ⟨hD.x.only hO6 (by omega), hD.r.only hO6 (by omega)⟩
      (dsimp only [wpList, SegQ]; refine ⟨fun w' => ∃ d : Wd (ArD ga gb a b), w' = d.w, ClsW.mk (D := ArD ga gb a b) (hD2), fun _ h => h, ?_⟩; unfold wpMix; simp only [pick, j1, j2, j3, j4]; (repeat (show wpQuiet _ _ _ _ (_ :: _) _; go_big_quiet_step (fail))); refine qn ?_)
      have hX1 : Blk ((w5.setCell ⟨w3.heap.size, 0, none⟩ (.int .i64 mx)).drew) w3.heap.size 265 _ := (hX.set_ 0 (.int .i64 mx)).drew
      clear cx fx
      have cx : ((w5.setCell ⟨w3.heap.size, 0, none⟩ (.int .i64 mx)).drew).cell? ⟨w3.heap.size, 1, none⟩ = some (.int .i64 x0.r.last) := hX1.cell 1
      have fx := hX1.frozen 1
      go_wp2_with fail
      have hO7 : Only (· = w3.heap.size) w5 (((w5.setCell ⟨w3.heap.size, 0, none⟩ (.int .i64 mx)).setCell ⟨w3.heap.size, 1, none⟩ (.int .i64 mn)).drew) := ((Only.set_ (F := (· = w3.heap.size)) rfl _).tr (Only.set_ (F := (· = w3.heap.size)) rfl _)).tr Only.drew
      have hD3 : ArD ga gb a b (((w5.setCell ⟨w3.heap.size, 0, none⟩ (.int .i64 mx)).setCell ⟨w3.heap.size, 1, none⟩ (.int .i64 mn)).drew) := ⟨hD.x.only hO7 (by omega), hD.r.only hO7 (by omega)⟩
      (dsimp only [wpList, SegQ]; refine ⟨fun w' => ∃ d : Wd (ArD ga gb a b), w' = d.w, ClsW.mk (D := ArD ga gb a b) (hD3), fun _ h => h, ?_⟩; unfold wpMix; simp only [pick, j2]; (repeat (show wpQuiet _ _ _ _ (_ :: _) _; go_big_quiet_step (fail))); refine qn ?_)
      have hX2 : Blk (((w5.setCell ⟨w3.heap.size, 0, none⟩ (.int .i64 mx)).setCell ⟨w3.heap.size, 1, none⟩ (.int .i64 mn)).drew) w3.heap.size 265 _ := ((hX.set_ 0 (.int .i64 mx)).set_ 1 (.int .i64 mn)).drew
      have HZ := jh (ja hX2 hO7)
      clear hX2 hO7 hD3 hD2 hO6 hX1 cx fx
      go_wp2_with fail
      go_meet
      exact ⟨rfl, by rw [HP.out]; exact HZ.out.1, HZ.out.2⟩
     case rest =>
     obtain ⟨rfl, hX6, hO6⟩ := hcut
     have hz6 := hO6.size
     have H6 := jh (ja (hD.x.only hO6 (by omega)) (ja (hD.r.only hO6 (by omega)) (HD5.out.2.2.trans (hO6.low (B := w3.heap.size) (fun q e => by have e' : q = w3.heap.size := e; omega) (by omega)))))
     have hfx : (stepM self a b).fit := by
      have h1 := HF.out
      unfold stepM
      have m1 : i64 (max a.first b.first) := by have := h1.1.1; have := h1.2.1; unfold i64 at *; omega
      have m2 : i64 (min a.last b.last) := by have := h1.1.2.1; have := h1.2.2.1; unfold i64 at *; omega
      split
      ·exact ⟨⟨m1, m2, h1.2.2.2⟩, h1.2, (by unfold i64; omega : i64 2)⟩
      ·exact ⟨⟨m1, m2, h1.1.2.2⟩, h1.1, (by unfold i64; omega : i64 1)⟩
     have hlast := jh (stepM_r self a b).2
     generalize hst : stepM self a b = x at *
     clear hX hD hO6 HD5 hst
     generalize hw6 : wc = w6 at *
     clear hw6
     have x0 : w6.cell? ⟨w3.heap.size, 0, none⟩ = some (.int .i64 x.r.first) := hX6.cell 0
     have x1 : w6.cell? ⟨w3.heap.size, 1, none⟩ = some (.int .i64 x.r.last) := hX6.cell 1
     have x2 : w6.cell? ⟨w3.heap.size, 2, none⟩ = some (.int .i64 x.r.owner) := hX6.cell 2
     have x3 : w6.cell? ⟨w3.heap.size, 3, none⟩ = some (.int .i64 x.r.epoch) := hX6.cell 3
     have x4 : w6.cell? ⟨w3.heap.size, 4, none⟩ = some (.int .i64 x.src.first) := hX6.cell 4
     have x5 : w6.cell? ⟨w3.heap.size, 5, none⟩ = some (.int .i64 x.src.last) := hX6.cell 5
     have x6 : w6.cell? ⟨w3.heap.size, 6, none⟩ = some (.int .i64 x.src.owner) := hX6.cell 6
     have x7 : w6.cell? ⟨w3.heap.size, 7, none⟩ = some (.int .i64 x.src.epoch) := hX6.cell 7
     have x8 : w6.cell? ⟨w3.heap.size, 8, none⟩ = some (.int .i64 x.who) := hX6.cell 8
     go_step
     go_step
     go_cut [7] (fun rv wx => ∃ Ar cr, rv = .slice Ar (pushR L x).length cr ∧ RunR.Own wx w2.heap.size 265 (fun _ => True) (.slice Ar (pushR L x).length cr) (pushR L x) ∧ ArD ga gb a b wx ∧ Blk wx w3.heap.size 265 x.cells ∧ Below w2.heap.size w2 wx)
     case first =>
      have hown6 := HI.out.2.1.ext (HC.out.2.2.1.tr H6.out.2.2)
      have hbl6 := HI.out.2.2.tr (HC.out.2.2.1.tr H6.out.2.2)
      have HOFF := jh (fun (q : Nat) (e : (Value.slice Ao L.length co).ownBlock = some q) => (show q < ga ∧ q < gb ∧ q < w3.heap.size from by
       have h1 := (HI.out.2.1.lt q e).2
       have h2 := HC.out.2.2.2
       have h3 := HC.out.2.2.1.size
       omega))
      have HX6 := jh hX6
      obtain ⟨i0, e1, e2, e3, e4⟩ := info_parts run_info
      clear hX6
      rcases List.eq_nil_or_concat L with rfl | ⟨L', y, rfl⟩
      ·have HO6 := jh (ja hown6 (ja hbl6 trivial))
       have HPU := jh (pushR_nil x)
       clear hown6 hbl6
       have hL0 : ([] : List RunP).length = 0 := rfl
       simp only [List.length_nil] at HOFF HO6 ⊢
       go_upto_region 12 with fail
       go_quiet (fail)
       have hX7 := HX6.out.drewN nq
       have hb7' : Below w6.heap.size w6 (w6.drewN nq) := (jb _ _).drewN _
       have HO := jh (ja (HO6.out.1.ext hb7') (ja (HO6.out.2.1.tr hb7') (ja hX7 (ja (Blk.drewN H6.out.1 nq) (Blk.drewN H6.out.2.1 nq)))))
       clear hX7 hb7'
       generalize w6.drewN nq = w7 at *
       clear x0 x1 x2 x3 x4 x5 x6 x7 x8
       have x0 : w7.cell? ⟨w3.heap.size, 0, none⟩ = some (.int .i64 x.r.first) := HO.out.2.2.1.cell 0
       have x1 : w7.cell? ⟨w3.heap.size, 1, none⟩ = some (.int .i64 x.r.last) := HO.out.2.2.1.cell 1
       have x2 : w7.cell? ⟨w3.heap.size, 2, none⟩ = some (.int .i64 x.r.owner) := HO.out.2.2.1.cell 2
       have x3 : w7.cell? ⟨w3.heap.size, 3, none⟩ = some (.int .i64 x.r.epoch) := HO.out.2.2.1.cell 3
       have x4 : w7.cell? ⟨w3.heap.size, 4, none⟩ = some (.int .i64 x.src.first) := HO.out.2.2.1.cell 4
       have x5 : w7.cell? ⟨w3.heap.size, 5, none⟩ = some (.int .i64 x.src.last) := HO.out.2.2.1.cell 5
       have x6 : w7.cell? ⟨w3.heap.size, 6, none⟩ = some (.int .i64 x.src.owner) := HO.out.2.2.1.cell 6
       have x7 : w7.cell? ⟨w3.heap.size, 7, none⟩ = some (.int .i64 x.src.epoch) := HO.out.2.2.1.cell 7
       have x8 : w7.cell? ⟨w3.heap.size, 8, none⟩ = some (.int .i64 x.who) := HO.out.2.2.1.cell 8
       go_upto_region 14 with fail
       go_wp2_with (first
        | (at_builtin; refine wpList_append_new (R := RunR) (cs := x.cells) w7 rfl (.tmp 114) (.tmp 116) _ rfl w2.heap.size 265 i0 _ 72 Tryz.underlying263 e1 e2 e3 e4 rfl _ [] (fun _ => True) rfl HO.out.1 (fun _ _ => trivial) rfl (fun _ => False) x (run_rep.2 ⟨rfl, hfx⟩) (fun _ h => h.elim) (by unfold maxLen; omega) (by omega) HO.out.2.1.size ?_; intro v8 w8 ho8 hg8 hat8 hne8 hb8)
        | fail)
       have HA := jh (ja ho8 (ja hg8 hb8))
       clear ho8 hg8 hat8 hne8 hb8
       go_wp2_with fail
       go_meet
       obtain ⟨A8, c8, hv8, _⟩ := HA.out.1.form
       have ho9 := HA.out.1
       rw [hv8] at ho9
       rw [HPU.out]
       have hG8 := Only.grown HA.out.2.1 (F := fun q => q < ga ∧ q < gb ∧ q < w3.heap.size) (fun q e => HOFF.out q e)
       exact ⟨A8, c8, hv8, ho9, ⟨HO.out.2.2.2.1.only hG8 (fun e => by have := e.1; omega), HO.out.2.2.2.2.only hG8 (fun e => by have := e.2.1; omega)⟩, HO.out.2.2.1.only hG8 (fun e => by have := e.2.2; omega), HO.out.2.1.trans HA.out.2.2⟩
      ·rw [List.concat_eq_append] at *
       have hln : (L' ++ [y]).length = L'.length + 1 := by simp
       rw [hln] at hown6 HOFF hll ⊢
       obtain ⟨g, cg, hgv, hg1, hg2, hset, hfz, hcx⟩ := own_run_last (z := x.r.last) hown6 hfx.1.2.1
       injection hgv with hA1 _ hcc
       subst hA1 hcc
       obtain ⟨b1, o1, cs1, hA2, _, _, hr1, hc1⟩ := (hown6.row (fun _ _ => trivial)).at_ (k := L'.length) (a := y) (by simp)
       injection hA2 with hA2
       injection hA2 with q1 q2 _
       subst q1 q2
       obtain ⟨rfl, hyf⟩ := run_rep.1 hr1
       have y4 := hc1 4 _ rfl
       have y5 := hc1 5 _ rfl
       have y6 := hc1 6 _ rfl
       have y7 := hc1 7 _ rfl
       have y8 := hc1 8 _ rfl
       simp only [RunR_size, Nat.zero_add] at y4 y5 y6 y7 y8
       obtain ⟨uu, hcx⟩ := hcx
       have HO6 := jh (ja hown6 (ja hbl6 hset))
       clear hown6 hbl6 hset hr1 hc1 hyf
       have hm0 : 0 ≤ (L'.length : Int) := Int.natCast_nonneg _
       have hmb : (L'.length : Int) ≤ 2000000 := by omega
       have hcase : (y.who ≠ x.who) ∨ (y.who = x.who ∧ y.src.first ≠ x.src.first) ∨ (y.who = x.who ∧ y.src.first = x.src.first ∧ y.src.last ≠ x.src.last) ∨ (y.who = x.who ∧ y.src.first = x.src.first ∧ y.src.last = x.src.last ∧ y.src.owner ≠ x.src.owner) ∨ (y.who = x.who ∧ y.src.first = x.src.first ∧ y.src.last = x.src.last ∧ y.src.owner = x.src.owner ∧ y.src.epoch ≠ x.src.epoch) ∨ (y.who = x.who ∧ y.src.first = x.src.first ∧ y.src.last = x.src.last ∧ y.src.owner = x.src.owner ∧ y.src.epoch = x.src.epoch) := by omega
       rcases hcase with gg | gg | gg | gg | gg | gg
       ·have HPU := jh (pushR_miss (l := L') (x := x) (y := y) (fun e => by
         obtain ⟨e1, e2⟩ := e
         simp [e1] at gg))
        (have g3 : (y.who == x.who) = false := by rw [beq_eq_false_iff_ne] ; exact gg)
        clear gg
        go_upto_region 12 with fail
        go_quiet (fail)
        have hX7 := HX6.out.drewN nq
        have hb7' : Below w6.heap.size w6 (w6.drewN nq) := (jb _ _).drewN _
        have HO := jh (ja (HO6.out.1.ext hb7') (ja (HO6.out.2.1.tr hb7') (ja hX7 (ja (Blk.drewN H6.out.1 nq) (Blk.drewN H6.out.2.1 nq)))))
        clear hX7 hb7'
        generalize w6.drewN nq = w7 at *
        clear x0 x1 x2 x3 x4 x5 x6 x7 x8
        have x0 : w7.cell? ⟨w3.heap.size, 0, none⟩ = some (.int .i64 x.r.first) := HO.out.2.2.1.cell 0
        have x1 : w7.cell? ⟨w3.heap.size, 1, none⟩ = some (.int .i64 x.r.last) := HO.out.2.2.1.cell 1
        have x2 : w7.cell? ⟨w3.heap.size, 2, none⟩ = some (.int .i64 x.r.owner) := HO.out.2.2.1.cell 2
        have x3 : w7.cell? ⟨w3.heap.size, 3, none⟩ = some (.int .i64 x.r.epoch) := HO.out.2.2.1.cell 3
        have x4 : w7.cell? ⟨w3.heap.size, 4, none⟩ = some (.int .i64 x.src.first) := HO.out.2.2.1.cell 4
        have x5 : w7.cell? ⟨w3.heap.size, 5, none⟩ = some (.int .i64 x.src.last) := HO.out.2.2.1.cell 5
        have x6 : w7.cell? ⟨w3.heap.size, 6, none⟩ = some (.int .i64 x.src.owner) := HO.out.2.2.1.cell 6
        have x7 : w7.cell? ⟨w3.heap.size, 7, none⟩ = some (.int .i64 x.src.epoch) := HO.out.2.2.1.cell 7
        have x8 : w7.cell? ⟨w3.heap.size, 8, none⟩ = some (.int .i64 x.who) := HO.out.2.2.1.cell 8
        go_upto_region 14 with fail
        go_wp2_with (first
         | (at_builtin; refine wpList_append_new (R := RunR) (cs := x.cells) w7 rfl (.tmp 114) (.tmp 116) _ rfl w2.heap.size 265 i0 _ 72 Tryz.underlying263 e1 e2 e3 e4 rfl _ (L' ++ [y]) (fun _ => True) rfl HO.out.1 (fun _ _ => trivial) rfl (fun _ => False) x (run_rep.2 ⟨rfl, hfx⟩) (fun _ h => h.elim) (by unfold maxLen; omega) (by omega) HO.out.2.1.size ?_; intro v8 w8 ho8 hg8 hat8 hne8 hb8)
         | fail)
        have HA := jh (ja ho8 (ja hg8 hb8))
        clear ho8 hg8 hat8 hne8 hb8
        go_wp2_with fail
        go_meet
        obtain ⟨A8, c8, hv8, _⟩ := HA.out.1.form
        have ho9 := HA.out.1
        rw [hv8] at ho9
        rw [HPU.out]
        have hG8 := Only.grown HA.out.2.1 (F := fun q => q < ga ∧ q < gb ∧ q < w3.heap.size) (fun q e => HOFF.out q e)
        exact ⟨A8, c8, hv8, ho9, ⟨HO.out.2.2.2.1.only hG8 (fun e => by have := e.1; omega), HO.out.2.2.2.2.only hG8 (fun e => by have := e.2.1; omega)⟩, HO.out.2.2.1.only hG8 (fun e => by have := e.2.2; omega), HO.out.2.1.trans HA.out.2.2⟩
       ·have HPU := jh (pushR_miss (l := L') (x := x) (y := y) (fun e => by
         obtain ⟨e1, e2⟩ := e
         simp [e1, e2] at gg))
        (rw [gg.1] at y8) ; (have g3 : (y.src.first == x.src.first) = false := by rw [beq_eq_false_iff_ne] ; exact gg.2)
        clear gg
        go_upto_region 12 with fail
        go_quiet (fail)
        have hX7 := HX6.out.drewN nq
        have hb7' : Below w6.heap.size w6 (w6.drewN nq) := (jb _ _).drewN _
        have HO := jh (ja (HO6.out.1.ext hb7') (ja (HO6.out.2.1.tr hb7') (ja hX7 (ja (Blk.drewN H6.out.1 nq) (Blk.drewN H6.out.2.1 nq)))))
        clear hX7 hb7'
        generalize w6.drewN nq = w7 at *
        clear x0 x1 x2 x3 x4 x5 x6 x7 x8
        have x0 : w7.cell? ⟨w3.heap.size, 0, none⟩ = some (.int .i64 x.r.first) := HO.out.2.2.1.cell 0
        have x1 : w7.cell? ⟨w3.heap.size, 1, none⟩ = some (.int .i64 x.r.last) := HO.out.2.2.1.cell 1
        have x2 : w7.cell? ⟨w3.heap.size, 2, none⟩ = some (.int .i64 x.r.owner) := HO.out.2.2.1.cell 2
        have x3 : w7.cell? ⟨w3.heap.size, 3, none⟩ = some (.int .i64 x.r.epoch) := HO.out.2.2.1.cell 3
        have x4 : w7.cell? ⟨w3.heap.size, 4, none⟩ = some (.int .i64 x.src.first) := HO.out.2.2.1.cell 4
        have x5 : w7.cell? ⟨w3.heap.size, 5, none⟩ = some (.int .i64 x.src.last) := HO.out.2.2.1.cell 5
        have x6 : w7.cell? ⟨w3.heap.size, 6, none⟩ = some (.int .i64 x.src.owner) := HO.out.2.2.1.cell 6
        have x7 : w7.cell? ⟨w3.heap.size, 7, none⟩ = some (.int .i64 x.src.epoch) := HO.out.2.2.1.cell 7
        have x8 : w7.cell? ⟨w3.heap.size, 8, none⟩ = some (.int .i64 x.who) := HO.out.2.2.1.cell 8
        go_upto_region 14 with fail
        go_wp2_with (first
         | (at_builtin; refine wpList_append_new (R := RunR) (cs := x.cells) w7 rfl (.tmp 114) (.tmp 116) _ rfl w2.heap.size 265 i0 _ 72 Tryz.underlying263 e1 e2 e3 e4 rfl _ (L' ++ [y]) (fun _ => True) rfl HO.out.1 (fun _ _ => trivial) rfl (fun _ => False) x (run_rep.2 ⟨rfl, hfx⟩) (fun _ h => h.elim) (by unfold maxLen; omega) (by omega) HO.out.2.1.size ?_; intro v8 w8 ho8 hg8 hat8 hne8 hb8)
         | fail)
        have HA := jh (ja ho8 (ja hg8 hb8))
        clear ho8 hg8 hat8 hne8 hb8
        go_wp2_with fail
        go_meet
        obtain ⟨A8, c8, hv8, _⟩ := HA.out.1.form
        have ho9 := HA.out.1
        rw [hv8] at ho9
        rw [HPU.out]
        have hG8 := Only.grown HA.out.2.1 (F := fun q => q < ga ∧ q < gb ∧ q < w3.heap.size) (fun q e => HOFF.out q e)
        exact ⟨A8, c8, hv8, ho9, ⟨HO.out.2.2.2.1.only hG8 (fun e => by have := e.1; omega), HO.out.2.2.2.2.only hG8 (fun e => by have := e.2.1; omega)⟩, HO.out.2.2.1.only hG8 (fun e => by have := e.2.2; omega), HO.out.2.1.trans HA.out.2.2⟩
       ·have HPU := jh (pushR_miss (l := L') (x := x) (y := y) (fun e => by
         obtain ⟨e1, e2⟩ := e
         simp [e1, e2] at gg))
        (rw [gg.1] at y8) ; (rw [gg.2.1] at y4) ; (have g3 : (y.src.last == x.src.last) = false := by rw [beq_eq_false_iff_ne] ; exact gg.2.2)
        clear gg
        go_upto_region 12 with fail
        go_quiet (fail)
        have hX7 := HX6.out.drewN nq
        have hb7' : Below w6.heap.size w6 (w6.drewN nq) := (jb _ _).drewN _
        have HO := jh (ja (HO6.out.1.ext hb7') (ja (HO6.out.2.1.tr hb7') (ja hX7 (ja (Blk.drewN H6.out.1 nq) (Blk.drewN H6.out.2.1 nq)))))
        clear hX7 hb7'
        generalize w6.drewN nq = w7 at *
        clear x0 x1 x2 x3 x4 x5 x6 x7 x8
        have x0 : w7.cell? ⟨w3.heap.size, 0, none⟩ = some (.int .i64 x.r.first) := HO.out.2.2.1.cell 0
        have x1 : w7.cell? ⟨w3.heap.size, 1, none⟩ = some (.int .i64 x.r.last) := HO.out.2.2.1.cell 1
        have x2 : w7.cell? ⟨w3.heap.size, 2, none⟩ = some (.int .i64 x.r.owner) := HO.out.2.2.1.cell 2
        have x3 : w7.cell? ⟨w3.heap.size, 3, none⟩ = some (.int .i64 x.r.epoch) := HO.out.2.2.1.cell 3
        have x4 : w7.cell? ⟨w3.heap.size, 4, none⟩ = some (.int .i64 x.src.first) := HO.out.2.2.1.cell 4
        have x5 : w7.cell? ⟨w3.heap.size, 5, none⟩ = some (.int .i64 x.src.last) := HO.out.2.2.1.cell 5
        have x6 : w7.cell? ⟨w3.heap.size, 6, none⟩ = some (.int .i64 x.src.owner) := HO.out.2.2.1.cell 6
        have x7 : w7.cell? ⟨w3.heap.size, 7, none⟩ = some (.int .i64 x.src.epoch) := HO.out.2.2.1.cell 7
        have x8 : w7.cell? ⟨w3.heap.size, 8, none⟩ = some (.int .i64 x.who) := HO.out.2.2.1.cell 8
        go_upto_region 14 with fail
        go_wp2_with (first
         | (at_builtin; refine wpList_append_new (R := RunR) (cs := x.cells) w7 rfl (.tmp 114) (.tmp 116) _ rfl w2.heap.size 265 i0 _ 72 Tryz.underlying263 e1 e2 e3 e4 rfl _ (L' ++ [y]) (fun _ => True) rfl HO.out.1 (fun _ _ => trivial) rfl (fun _ => False) x (run_rep.2 ⟨rfl, hfx⟩) (fun _ h => h.elim) (by unfold maxLen; omega) (by omega) HO.out.2.1.size ?_; intro v8 w8 ho8 hg8 hat8 hne8 hb8)
         | fail)
        have HA := jh (ja ho8 (ja hg8 hb8))
        clear ho8 hg8 hat8 hne8 hb8
        go_wp2_with fail
        go_meet
        obtain ⟨A8, c8, hv8, _⟩ := HA.out.1.form
        have ho9 := HA.out.1
        rw [hv8] at ho9
        rw [HPU.out]
        have hG8 := Only.grown HA.out.2.1 (F := fun q => q < ga ∧ q < gb ∧ q < w3.heap.size) (fun q e => HOFF.out q e)
        exact ⟨A8, c8, hv8, ho9, ⟨HO.out.2.2.2.1.only hG8 (fun e => by have := e.1; omega), HO.out.2.2.2.2.only hG8 (fun e => by have := e.2.1; omega)⟩, HO.out.2.2.1.only hG8 (fun e => by have := e.2.2; omega), HO.out.2.1.trans HA.out.2.2⟩
       ·have HPU := jh (pushR_miss (l := L') (x := x) (y := y) (fun e => by
         obtain ⟨e1, e2⟩ := e
         simp [e1, e2] at gg))
        (rw [gg.1] at y8) ; (rw [gg.2.1] at y4) ; (rw [gg.2.2.1] at y5) ; (have g3 : (y.src.owner == x.src.owner) = false := by rw [beq_eq_false_iff_ne] ; exact gg.2.2.2)
        clear gg
        go_upto_region 12 with fail
        go_quiet (fail)
        have hX7 := HX6.out.drewN nq
        have hb7' : Below w6.heap.size w6 (w6.drewN nq) := (jb _ _).drewN _
        have HO := jh (ja (HO6.out.1.ext hb7') (ja (HO6.out.2.1.tr hb7') (ja hX7 (ja (Blk.drewN H6.out.1 nq) (Blk.drewN H6.out.2.1 nq)))))
        clear hX7 hb7'
        generalize w6.drewN nq = w7 at *
        clear x0 x1 x2 x3 x4 x5 x6 x7 x8
        have x0 : w7.cell? ⟨w3.heap.size, 0, none⟩ = some (.int .i64 x.r.first) := HO.out.2.2.1.cell 0
        have x1 : w7.cell? ⟨w3.heap.size, 1, none⟩ = some (.int .i64 x.r.last) := HO.out.2.2.1.cell 1
        have x2 : w7.cell? ⟨w3.heap.size, 2, none⟩ = some (.int .i64 x.r.owner) := HO.out.2.2.1.cell 2
        have x3 : w7.cell? ⟨w3.heap.size, 3, none⟩ = some (.int .i64 x.r.epoch) := HO.out.2.2.1.cell 3
        have x4 : w7.cell? ⟨w3.heap.size, 4, none⟩ = some (.int .i64 x.src.first) := HO.out.2.2.1.cell 4
        have x5 : w7.cell? ⟨w3.heap.size, 5, none⟩ = some (.int .i64 x.src.last) := HO.out.2.2.1.cell 5
        have x6 : w7.cell? ⟨w3.heap.size, 6, none⟩ = some (.int .i64 x.src.owner) := HO.out.2.2.1.cell 6
        have x7 : w7.cell? ⟨w3.heap.size, 7, none⟩ = some (.int .i64 x.src.epoch) := HO.out.2.2.1.cell 7
        have x8 : w7.cell? ⟨w3.heap.size, 8, none⟩ = some (.int .i64 x.who) := HO.out.2.2.1.cell 8
        go_upto_region 14 with fail
        go_wp2_with (first
         | (at_builtin; refine wpList_append_new (R := RunR) (cs := x.cells) w7 rfl (.tmp 114) (.tmp 116) _ rfl w2.heap.size 265 i0 _ 72 Tryz.underlying263 e1 e2 e3 e4 rfl _ (L' ++ [y]) (fun _ => True) rfl HO.out.1 (fun _ _ => trivial) rfl (fun _ => False) x (run_rep.2 ⟨rfl, hfx⟩) (fun _ h => h.elim) (by unfold maxLen; omega) (by omega) HO.out.2.1.size ?_; intro v8 w8 ho8 hg8 hat8 hne8 hb8)
         | fail)
        have HA := jh (ja ho8 (ja hg8 hb8))
        clear ho8 hg8 hat8 hne8 hb8
        go_wp2_with fail
        go_meet
        obtain ⟨A8, c8, hv8, _⟩ := HA.out.1.form
        have ho9 := HA.out.1
        rw [hv8] at ho9
        rw [HPU.out]
        have hG8 := Only.grown HA.out.2.1 (F := fun q => q < ga ∧ q < gb ∧ q < w3.heap.size) (fun q e => HOFF.out q e)
        exact ⟨A8, c8, hv8, ho9, ⟨HO.out.2.2.2.1.only hG8 (fun e => by have := e.1; omega), HO.out.2.2.2.2.only hG8 (fun e => by have := e.2.1; omega)⟩, HO.out.2.2.1.only hG8 (fun e => by have := e.2.2; omega), HO.out.2.1.trans HA.out.2.2⟩
       ·have HPU := jh (pushR_miss (l := L') (x := x) (y := y) (fun e => by
         obtain ⟨e1, e2⟩ := e
         simp [e1, e2] at gg))
        (rw [gg.1] at y8) ; (rw [gg.2.1] at y4) ; (rw [gg.2.2.1] at y5) ; (rw [gg.2.2.2.1] at y6) ; (have g3 : (y.src.epoch == x.src.epoch) = false := by rw [beq_eq_false_iff_ne] ; exact gg.2.2.2.2)
        clear gg
        go_upto_region 12 with fail
        go_quiet (fail)
        have hX7 := HX6.out.drewN nq
        have hb7' : Below w6.heap.size w6 (w6.drewN nq) := (jb _ _).drewN _
        have HO := jh (ja (HO6.out.1.ext hb7') (ja (HO6.out.2.1.tr hb7') (ja hX7 (ja (Blk.drewN H6.out.1 nq) (Blk.drewN H6.out.2.1 nq)))))
        clear hX7 hb7'
        generalize w6.drewN nq = w7 at *
        clear x0 x1 x2 x3 x4 x5 x6 x7 x8
        have x0 : w7.cell? ⟨w3.heap.size, 0, none⟩ = some (.int .i64 x.r.first) := HO.out.2.2.1.cell 0
        have x1 : w7.cell? ⟨w3.heap.size, 1, none⟩ = some (.int .i64 x.r.last) := HO.out.2.2.1.cell 1
        have x2 : w7.cell? ⟨w3.heap.size, 2, none⟩ = some (.int .i64 x.r.owner) := HO.out.2.2.1.cell 2
        have x3 : w7.cell? ⟨w3.heap.size, 3, none⟩ = some (.int .i64 x.r.epoch) := HO.out.2.2.1.cell 3
        have x4 : w7.cell? ⟨w3.heap.size, 4, none⟩ = some (.int .i64 x.src.first) := HO.out.2.2.1.cell 4
        have x5 : w7.cell? ⟨w3.heap.size, 5, none⟩ = some (.int .i64 x.src.last) := HO.out.2.2.1.cell 5
        have x6 : w7.cell? ⟨w3.heap.size, 6, none⟩ = some (.int .i64 x.src.owner) := HO.out.2.2.1.cell 6
        have x7 : w7.cell? ⟨w3.heap.size, 7, none⟩ = some (.int .i64 x.src.epoch) := HO.out.2.2.1.cell 7
        have x8 : w7.cell? ⟨w3.heap.size, 8, none⟩ = some (.int .i64 x.who) := HO.out.2.2.1.cell 8
        go_upto_region 14 with fail
        go_wp2_with (first
         | (at_builtin; refine wpList_append_new (R := RunR) (cs := x.cells) w7 rfl (.tmp 114) (.tmp 116) _ rfl w2.heap.size 265 i0 _ 72 Tryz.underlying263 e1 e2 e3 e4 rfl _ (L' ++ [y]) (fun _ => True) rfl HO.out.1 (fun _ _ => trivial) rfl (fun _ => False) x (run_rep.2 ⟨rfl, hfx⟩) (fun _ h => h.elim) (by unfold maxLen; omega) (by omega) HO.out.2.1.size ?_; intro v8 w8 ho8 hg8 hat8 hne8 hb8)
         | fail)
        have HA := jh (ja ho8 (ja hg8 hb8))
        clear ho8 hg8 hat8 hne8 hb8
        go_wp2_with fail
        go_meet
        obtain ⟨A8, c8, hv8, _⟩ := HA.out.1.form
        have ho9 := HA.out.1
        rw [hv8] at ho9
        rw [HPU.out]
        have hG8 := Only.grown HA.out.2.1 (F := fun q => q < ga ∧ q < gb ∧ q < w3.heap.size) (fun q e => HOFF.out q e)
        exact ⟨A8, c8, hv8, ho9, ⟨HO.out.2.2.2.1.only hG8 (fun e => by have := e.1; omega), HO.out.2.2.2.2.only hG8 (fun e => by have := e.2.1; omega)⟩, HO.out.2.2.1.only hG8 (fun e => by have := e.2.2; omega), HO.out.2.1.trans HA.out.2.2⟩
       ·have HPU := jh (pushR_hit (l := L') (x := x) (y := y) (by
         obtain ⟨e0, e1, e2, e3, e4⟩ := gg
         refine ⟨e0, ?_⟩
         obtain ⟨⟨_, _, _, _⟩, ⟨_, _, _, _⟩, _⟩ := x
         obtain ⟨⟨_, _, _, _⟩, ⟨_, _, _, _⟩, _⟩ := y
         simp at e1 e2 e3 e4
         simp [e1, e2, e3, e4]))
        rw [gg.1] at y8
        rw [gg.2.1] at y4
        rw [gg.2.2.1] at y5
        rw [gg.2.2.2.1] at y6
        rw [gg.2.2.2.2] at y7
        clear gg
        go_upto_region 12 with fail
        go_quiet (fail)
        have hcx' : (w6.drewN nq).cell? ⟨g, L'.length * 9 + 1, none⟩ = some uu := hcx
        have hfz' : (w6.drewN nq).frozen? ⟨g, L'.length * 9 + 1, none⟩ = false := hfz
        have hX7 := HX6.out.drewN nq
        have hb7' : Below w6.heap.size w6 (w6.drewN nq) := (jb _ _).drewN _
        have hset7 : RunR.Own ((w6.drewN nq).setCell ⟨g, L'.length * 9 + 1, none⟩ (.int .i64 x.r.last)) w2.heap.size 265 (fun _ => True) (.slice (some ⟨g, 0, none⟩) (L'.length + 1) co) (L' ++ [{ y with r := { y.r with last := x.r.last } }]) := HO6.out.2.2.drewN nq
        have HO := jh (ja hset7 (ja (HO6.out.2.1.tr hb7') (ja hX7 (ja (Blk.drewN H6.out.1 nq) (Blk.drewN H6.out.2.1 nq)))))
        clear hX7 hb7' hset7 hcx hfz
        generalize w6.drewN nq = w7 at *
        clear x0 x1 x2 x3 x4 x5 x6 x7 x8
        have x1 : w7.cell? ⟨w3.heap.size, 1, none⟩ = some (.int .i64 x.r.last) := HO.out.2.2.1.cell 1
        clear y4 y5 y6 y7 y8
        go_wp2_with fail
        go_meet
        rw [HPU.out]
        have hoo := HOFF.out g rfl
        have hG8 : Only (fun q => q < ga ∧ q < gb ∧ q < w3.heap.size) w7 (w7.setCell ⟨g, L'.length * 9 + 1, none⟩ (.int .i64 x.r.last)) := Only.set_ (p := ⟨g, L'.length * 9 + 1, none⟩) hoo _
        refine ⟨some ⟨g, 0, none⟩, co, by simp, ?_, ⟨HO.out.2.2.2.1.only hG8 (fun e => by have := e.1; omega), HO.out.2.2.2.2.only hG8 (fun e => by have := e.2.1; omega)⟩, HO.out.2.2.1.only hG8 (fun e => by have := e.2.2; omega), HO.out.2.1.st hg1 _⟩
        have hlx : (L' ++ [{ y with r := { y.r with last := x.r.last } }]).length = L'.length + 1 := by simp
        rw [hlx]
        exact HO.out.1
     case rest =>
     obtain ⟨Ar, cr, rfl, hown7, hD7, hX7, hb7⟩ := hcut
     have hpl := pushR_len L x
     generalize pushR L x = L2 at *
     have a1 : wc.cell? ⟨ga, 1, none⟩ = some (.int .i64 a.last) := hD7.x.cell 1
     have b1 : wc.cell? ⟨gb, 1, none⟩ = some (.int .i64 b.last) := hD7.r.cell 1
     have x1' : wc.cell? ⟨w3.heap.size, 1, none⟩ = some (.int .i64 x.r.last) := hX7.cell 1
     have H7 := jh (ja hown7 hb7)
     clear x0 x1 x2 x3 x4 x5 x6 x7 x8 hown7 hD7 hX7 hb7 hX6
     have hi1 : (i : Int) ≤ 1000000 := by omega
     have hk1 : (k : Int) ≤ 1000000 := by omega
     have hcase : a.last < b.last ∨ a.last = b.last ∨ b.last < a.last := by omega
     rcases hcase with h | h | h
     ·have HX2 := jh (show runsR self m (mine.drop (i + 1)) (theirs.drop k) L2 = mergeL self mine theirs from by have h1 := HX.out; rw [if_pos (by omega), if_neg (by omega)] at h1; exact h1)
      have hxl : x.r.last = a.last := by rw [hlast.out]; omega
      rw [hxl] at x1'
      have g2 : (b.last == a.last) = false := beq_eq_false_iff_ne.2 (by omega)
      clear h hxl
      go_wp2_with fail
      go_round
      case rel => exact ⟨i + 1, k, m, L2, by omega, by omega, by go_num, rfl, by omega, HX2.out, by omega, H7.out.1, H7.out.2⟩
      case measure => simp [intOf]; omega
     ·have HX2 := jh (show runsR self m (mine.drop (i + 1)) (theirs.drop (k + 1)) L2 = mergeL self mine theirs from by have h1 := HX.out; rw [if_pos (by omega), if_pos (by omega)] at h1; exact h1)
      have hxl : x.r.last = a.last := by rw [hlast.out]; omega
      rw [hxl] at x1'
      rw [← h] at b1
      clear h hxl
      go_wp2_with fail
      go_round
      case rel => exact ⟨i + 1, k + 1, m, L2, by omega, by omega, by go_num, by go_num, by omega, HX2.out, by omega, H7.out.1, H7.out.2⟩
      case measure => simp [intOf]; omega
     ·have HX2 := jh (show runsR self m (mine.drop i) (theirs.drop (k + 1)) L2 = mergeL self mine theirs from by have h1 := HX.out; rw [if_neg (by omega), if_pos (by omega)] at h1; exact h1)
      have hxl : x.r.last = b.last := by rw [hlast.out]; omega
      rw [hxl] at x1'
      have g2 : (a.last == b.last) = false := beq_eq_false_iff_ne.2 (by omega)
      clear h hxl
      go_wp2_with fail
      go_round
      case rel => exact ⟨i, k + 1, m, L2, by omega, by omega, rfl, by go_num, by omega, HX2.out, by omega, H7.out.1, H7.out.2⟩
      case measure => simp [intOf]; omega
   ·have hkn : k = theirs.length := by omega
    have HR2 := jh (show L = mergeL self mine theirs from by
     rw [← HI.out.1, hkn, List.drop_length]
     cases n <;> cases mine.drop i <;> rfl)
    subst hkn
    have hll2 : L.length ≤ 2000000 := by omega
    have hrow := HI.out.2.1.row (fun _ _ => trivial)
    have HQ := jh (ja hrow (ja (HB2.out.tr HI.out.2.2) HR2.out))
    clear hrow HI HR2 hll
    generalize wr = wq at *
    by_cases h64 : 64 < L.length
    ·have HE2 := jh (HE.out.trans (if_pos (by rw [← HQ.out.2.2]; exact h64)))
     have h64' : (64 : Int) < L.length := by omega
     have C2 := CL.out wq HQ.out.2.1
     unfold GotOwn at C2
     clear h64
     go_wp2_with fail
     refine C2.mono ?_
     clear C2
     rintro e w3 ⟨⟨v3, rfl, ho⟩, hb3⟩
     have HO := jh (ja ho hb3)
     clear ho hb3
     go_wp2_with fail
     go_ret
     rw [HE2.out]
     exact ⟨⟨_, rfl, (HO.out.1.plain range_plain).base' HQ.out.2.1.size⟩, HQ.out.2.1.tr HO.out.2⟩
    ·have HE2 := jh ((HE.out.trans (if_neg (by rw [← HQ.out.2.2]; exact h64))).trans (by rw [← HQ.out.2.2]))
     have h64' : ¬ (64 : Int) < L.length := by omega
     clear h64
     go_wp2_with fail
     go_loopw [6, 141] (fun ov iv wx => ∃ j : Nat, j ≤ L.length ∧ iv = .int .i64 j ∧ RangeR.Own wx wq.heap.size 40 (fun _ => True) ov ((L.take j).map RunP.r) ∧ Below wq.heap.size wq wx) (fun _ iv _ => L.length - (intOf iv).toNat)
     case atStart => exact ⟨0, Nat.zero_le _, rfl, by rw [List.take_zero]; exact Rep.Own.nil_, jb _ _⟩
     case round =>
      obtain ⟨j, hj, rfl, hown, hbl⟩ := hrel
      obtain ⟨Av, cv, rfl, _⟩ := hown.form
      by_cases hjt : j < L.length
      ·have hjt' : (j : Int) < L.length := by omega
       have hlj := List.getElem?_eq_getElem hjt
       have hts := take_snoc L j hjt
       obtain ⟨bo, oo, cs, rfl, _, _, hrep, hcs⟩ := (HQ.out.1.ext hbl).at_ hlj
       generalize L[j] = y at *
       obtain ⟨rfl, hfy⟩ := run_rep.1 hrep
       have c0 := hcs 0 _ rfl; have c1 := hcs 1 _ rfl; have c2 := hcs 2 _ rfl; have c3 := hcs 3 _ rfl; have c4 := hcs 4 _ rfl; have c5 := hcs 5 _ rfl; have c6 := hcs 6 _ rfl; have c7 := hcs 7 _ rfl; have c8 := hcs 8 _ rfl; simp only [RunR_size, Nat.add_zero] at c0 c1 c2 c3 c4 c5 c6 c7 c8
       have hbx := (jb wr.heap.size wr).al (.cells y.cells.toArray 265)
       have BX := Blk.new wr 265 y.cells
       have HO := jh (ja hown (ja hbl (ja hts hfy)))
       have hlt2 : ((L.take j).map RunP.r).length ≤ 2000000 := by rw [List.length_map, List.length_take]; omega
       clear hlj hts hrep hcs hfy hown hbl
       unfold RunP.cells at hbx BX
       go_upto_region 24 with fail
       generalize wr.alloc (.cells #[.int .i64 y.r.first, .int .i64 y.r.last, .int .i64 y.r.owner, .int .i64 y.r.epoch, .int .i64 y.src.first, .int .i64 y.src.last, .int .i64 y.src.owner, .int .i64 y.src.epoch, .int .i64 y.who] 265) = wx at *
       have z0 : wx.cell? ⟨wr.heap.size, 0, none⟩ = some (.int .i64 y.r.first) := BX.cell 0
       have z1 : wx.cell? ⟨wr.heap.size, 1, none⟩ = some (.int .i64 y.r.last) := BX.cell 1
       have z2 : wx.cell? ⟨wr.heap.size, 2, none⟩ = some (.int .i64 y.r.owner) := BX.cell 2
       have z3 : wx.cell? ⟨wr.heap.size, 3, none⟩ = some (.int .i64 y.r.epoch) := BX.cell 3
       have HX := jh (ja (HO.out.1.ext hbx) (HO.out.2.1.tr hbx))
       clear hbx BX c0 c1 c2 c3 c4 c5 c6 c7 c8
       obtain ⟨i0, e1, e2, e3, e4⟩ := info_parts range_info
       go_wp2_with (first
        | (at_builtin; refine wpList_append_new (R := RangeR) wx rfl (.tmp 145) (.tmp 148) _ rfl wq.heap.size 40 i0 _ 32 Tryz.underlying51 e1 e2 e3 e4 rfl _ ((L.take j).map RunP.r) (fun _ => True) rfl HX.out.1 (fun _ _ => trivial) rfl (fun _ => False) y.r (range_rep.2 ⟨rfl, HO.out.2.2.2.1⟩) (fun _ h => h.elim) (by unfold maxLen; omega) (by omega) HX.out.2.size ?_; intro v8 w8 ho8 hg8 hat8 hne8 hb8)
        | fail)
       have HA := jh (ja ho8 (HX.out.2.trans hb8))
       clear ho8 hg8 hat8 hne8 hb8 z0 z1 z2 z3
       go_wp2_with fail
       go_round
       case rel => exact ⟨j + 1, by omega, by go_num, by rw [HO.out.2.2.1, List.map_append]; exact HA.out.1, HA.out.2⟩
       case measure => simp [intOf]; omega
      ·have hjn : j = L.length := by omega
       subst hjn
       rw [List.take_length] at hown ⊢
       have HO := jh (ja hown hbl)
       clear hown hbl
       go_wp2_with fail
       go_ret
       rw [HE2.out]
       exact ⟨⟨_, rfl, (HO.out.1.plain range_plain).base' HQ.out.2.1.size⟩, HQ.out.2.1.tr HO.out.2⟩
  ·have hin : i = mine.length := by omega
   have HR2 := jh (show L = mergeL self mine theirs from by
    rw [← HI.out.1, hin, List.drop_length]
    cases n <;> rfl)
   subst hin
   have hll2 : L.length ≤ 2000000 := by omega
   have hrow := HI.out.2.1.row (fun _ _ => trivial)
   have HQ := jh (ja hrow (ja (HB2.out.tr HI.out.2.2) HR2.out))
   clear hrow HI HR2 hll
   generalize wr = wq at *
   by_cases h64 : 64 < L.length
   ·have HE2 := jh (HE.out.trans (if_pos (by rw [← HQ.out.2.2]; exact h64)))
    have h64' : (64 : Int) < L.length := by omega
    have C2 := CL.out wq HQ.out.2.1
    unfold GotOwn at C2
    clear h64
    go_wp2_with fail
    refine C2.mono ?_
    clear C2
    rintro e w3 ⟨⟨v3, rfl, ho⟩, hb3⟩
    have HO := jh (ja ho hb3)
    clear ho hb3
    go_wp2_with fail
    go_ret
    rw [HE2.out]
    exact ⟨⟨_, rfl, (HO.out.1.plain range_plain).base' HQ.out.2.1.size⟩, HQ.out.2.1.tr HO.out.2⟩
   ·have HE2 := jh ((HE.out.trans (if_neg (by rw [← HQ.out.2.2]; exact h64))).trans (by rw [← HQ.out.2.2]))
    have h64' : ¬ (64 : Int) < L.length := by omega
    clear h64
    go_wp2_with fail
    go_loopw [6, 141] (fun ov iv wx => ∃ j : Nat, j ≤ L.length ∧ iv = .int .i64 j ∧ RangeR.Own wx wq.heap.size 40 (fun _ => True) ov ((L.take j).map RunP.r) ∧ Below wq.heap.size wq wx) (fun _ iv _ => L.length - (intOf iv).toNat)
    case atStart => exact ⟨0, Nat.zero_le _, rfl, by rw [List.take_zero]; exact Rep.Own.nil_, jb _ _⟩
    case round =>
     obtain ⟨j, hj, rfl, hown, hbl⟩ := hrel
     obtain ⟨Av, cv, rfl, _⟩ := hown.form
     by_cases hjt : j < L.length
     ·have hjt' : (j : Int) < L.length := by omega
      have hlj := List.getElem?_eq_getElem hjt
      have hts := take_snoc L j hjt
      obtain ⟨bo, oo, cs, rfl, _, _, hrep, hcs⟩ := (HQ.out.1.ext hbl).at_ hlj
      generalize L[j] = y at *
      obtain ⟨rfl, hfy⟩ := run_rep.1 hrep
      have c0 := hcs 0 _ rfl; have c1 := hcs 1 _ rfl; have c2 := hcs 2 _ rfl; have c3 := hcs 3 _ rfl; have c4 := hcs 4 _ rfl; have c5 := hcs 5 _ rfl; have c6 := hcs 6 _ rfl; have c7 := hcs 7 _ rfl; have c8 := hcs 8 _ rfl; simp only [RunR_size, Nat.add_zero] at c0 c1 c2 c3 c4 c5 c6 c7 c8
      have hbx := (jb wr.heap.size wr).al (.cells y.cells.toArray 265)
      have BX := Blk.new wr 265 y.cells
      have HO := jh (ja hown (ja hbl (ja hts hfy)))
      have hlt2 : ((L.take j).map RunP.r).length ≤ 2000000 := by rw [List.length_map, List.length_take]; omega
      clear hlj hts hrep hcs hfy hown hbl
      unfold RunP.cells at hbx BX
      go_upto_region 24 with fail
      generalize wr.alloc (.cells #[.int .i64 y.r.first, .int .i64 y.r.last, .int .i64 y.r.owner, .int .i64 y.r.epoch, .int .i64 y.src.first, .int .i64 y.src.last, .int .i64 y.src.owner, .int .i64 y.src.epoch, .int .i64 y.who] 265) = wx at *
      have z0 : wx.cell? ⟨wr.heap.size, 0, none⟩ = some (.int .i64 y.r.first) := BX.cell 0
      have z1 : wx.cell? ⟨wr.heap.size, 1, none⟩ = some (.int .i64 y.r.last) := BX.cell 1
      have z2 : wx.cell? ⟨wr.heap.size, 2, none⟩ = some (.int .i64 y.r.owner) := BX.cell 2
      have z3 : wx.cell? ⟨wr.heap.size, 3, none⟩ = some (.int .i64 y.r.epoch) := BX.cell 3
      have HX := jh (ja (HO.out.1.ext hbx) (HO.out.2.1.tr hbx))
      clear hbx BX c0 c1 c2 c3 c4 c5 c6 c7 c8
      obtain ⟨i0, e1, e2, e3, e4⟩ := info_parts range_info
      go_wp2_with (first
       | (at_builtin; refine wpList_append_new (R := RangeR) wx rfl (.tmp 145) (.tmp 148) _ rfl wq.heap.size 40 i0 _ 32 Tryz.underlying51 e1 e2 e3 e4 rfl _ ((L.take j).map RunP.r) (fun _ => True) rfl HX.out.1 (fun _ _ => trivial) rfl (fun _ => False) y.r (range_rep.2 ⟨rfl, HO.out.2.2.2.1⟩) (fun _ h => h.elim) (by unfold maxLen; omega) (by omega) HX.out.2.size ?_; intro v8 w8 ho8 hg8 hat8 hne8 hb8)
       | fail)
      have HA := jh (ja ho8 (HX.out.2.trans hb8))
      clear ho8 hg8 hat8 hne8 hb8 z0 z1 z2 z3
      go_wp2_with fail
      go_round
      case rel => exact ⟨j + 1, by omega, by go_num, by rw [HO.out.2.2.1, List.map_append]; exact HA.out.1, HA.out.2⟩
      case measure => simp [intOf]; omega
     ·have hjn : j = L.length := by omega
      subst hjn
      rw [List.take_length] at hown ⊢
      have HO := jh (ja hown hbl)
      clear hown hbl
      go_wp2_with fail
      go_ret
      rw [HE2.out]
      exact ⟨⟨_, rfl, (HO.out.1.plain range_plain).base' HQ.out.2.1.size⟩, HQ.out.2.1.tr HO.out.2⟩
end Go.Proofs.YtpgocpodhamibaaGreatDoor
