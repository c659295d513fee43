/- state.around: a ring with a range laid in. table.Table.Drop. state.install. -/
import Derived.Test.YtcmjgghkmdbphaaGreatDoorS21
import Derived.Test.YtcmjgghkmdbphaaGreatDoorS15
import Derived.Test.YtcmjgghkmdbphaaGreatDoorS10
import Derived.Test.YtcmjgghkmdbphaaGreatDoorS25
set_option maxRecDepth 20000
set_option maxHeartbeats 25600000
namespace Go.Proofs.YtcmjgghkmdbphaaGreatDoor
open Go.RowKit
structure ArD (xb rb : Nat) (x r : Range) (W : World) : Prop where
 x : Blk W xb 27 [.int .i64 x.first, .int .i64 x.last, .int .i64 x.owner, .int .i64 x.epoch]
 r : Blk W rb 27 [.int .i64 r.first, .int .i64 r.last, .int .i64 r.owner, .int .i64 r.epoch]
section
variable {xb rb : Nat} {x r : Range}
theorem ArD.x0 (d : Wd (ArD xb rb x r)) : d.w.cell? ⟨xb, 0, none⟩ = some (.int .i64 x.first) := d.ok.x.cell 0
theorem ArD.x1 (d : Wd (ArD xb rb x r)) : d.w.cell? ⟨xb, 1, none⟩ = some (.int .i64 x.last) := d.ok.x.cell 1
theorem ArD.r0 (d : Wd (ArD xb rb x r)) : d.w.cell? ⟨rb, 0, none⟩ = some (.int .i64 r.first) := d.ok.r.cell 0
theorem ArD.r1 (d : Wd (ArD xb rb x r)) : d.w.cell? ⟨rb, 1, none⟩ = some (.int .i64 r.last) := d.ok.r.cell 1
end
structure ArS (ga gb xb rb base : Nat) (cl ch : List Value) (x r : Range) (w1 : World) (v : Value) (acc : List Range) (W : World) : Prop where
 own : RangeR.Own W base 27 (fun _ => True) v acc
 low : Blk W ga 27 cl
 high : Blk W gb 27 ch
 x : Blk W xb 27 [.int .i64 x.first, .int .i64 x.last, .int .i64 x.owner, .int .i64 x.epoch]
 r : Blk W rb 27 [.int .i64 r.first, .int .i64 r.last, .int .i64 r.owner, .int .i64 r.epoch]
 off : ∀ q, v.ownBlock = some q → q ≠ ga ∧ q ≠ gb ∧ q ≠ xb ∧ q ≠ rb
 below : Below base w1 W
theorem ArS.app {ga gb xb rb base : Nat} {cl ch : List Value} {x r d : Range} {w1 W W' : World} {v v' : Value} {acc : List Range} (h : ArS ga gb xb rb base cl ch x r w1 v acc W)
 (ho : RangeR.Own W' base 27 (fun _ => True) v' (acc ++ [d])) (hg : W.grownBy W' v.ownBlock) (hat : v'.ownBlock = v.ownBlock ∨ v'.ownBlock = some (W.heap.size + 1)) (hb : Below base W W') : ArS ga gb xb rb base cl ch x r w1 v' (acc ++ [d]) W' := by
 have h1 := h.low.lt
 have h2 := h.high.lt
 have h3 := h.x.lt
 have h4 := h.r.lt
 have hG := Only.grown hg (F := fun g => v.ownBlock = some g) (fun g hg => hg)
 refine ⟨ho, h.low.only hG (fun e => (h.off _ e).1 rfl), h.high.only hG (fun e => (h.off _ e).2.1 rfl), h.x.only hG (fun e => (h.off _ e).2.2.1 rfl), h.r.only hG (fun e => (h.off _ e).2.2.2 rfl), fun q hq => ?_, h.below.trans hb⟩
 rcases hat with e | e
 ·exact h.off q (e ▸ hq)
 ·have e2 : q = W.heap.size + 1 := by rw [e] at hq; exact (Option.some.inj hq).symm
  omega
theorem around_snoc {l : List Range} {r x : Range} {lo hi : Int} (h1 : lo = min x.last (r.first - 1)) (h2 : hi = max x.first (r.last + 1)) :
 aroundR (l ++ [x]) r = aroundR l r ++ (if x.first ≤ lo then [(⟨x.first, lo, x.owner, x.epoch⟩ : Range)] else []) ++ (if x.first ≤ r.first ∧ r.first ≤ x.last then [r] else []) ++ (if hi ≤ x.last then [(⟨hi, x.last, x.owner, x.epoch⟩ : Range)] else []) := by
 subst h1 h2
 unfold aroundR aroundX
 rw [List.flatMap_append, List.flatMap_cons, List.flatMap_nil, List.append_nil, List.append_assoc, List.append_assoc]
theorem aroundX_len (r x : Range) : (aroundX r x).length ≤ 3 := by
 unfold aroundX
 simp only [List.length_append]
 (repeat' split) <;> simp
theorem around_len (l : List Range) (r : Range) : (aroundR l r).length ≤ 3 * l.length := by
 unfold aroundR
 induction l with
 | nil => simp
 | cons x l ih =>
   rw [List.flatMap_cons, List.length_append, List.length_cons]
   have := aroundX_len r x
   omega
theorem around_any (A : Option Addr) (c : Nat) (l : List Range) (r : Range) (P : Nat → Prop) (w : World) (hr : RangeR.Row w P A l) (hl : l.length ≤ 1000) (h0 : 0 ≤ r.first) (h1 : r.first ≤ r.last) (h2 : r.last ≤ 4294967295) (hf : r.fit) :
 Calls Tryz.prog 190 #[.slice A l.length c, .agg #[.int .i64 r.first, .int .i64 r.last, .int .i64 r.owner, .int .i64 r.epoch]] w fun e w' => GotOwn RangeR w.heap.size 27 (fun _ => False) (aroundR l r) e w' ∧ Below w.heap.size w w' := by
 have HR := jh (hr.mono (Q := fun g => g < w.heap.size) fun g _ h => h)
 have hb0 := (jb w.heap.size w).al (.cells #[.int .i64 r.first, .int .i64 r.last, .int .i64 r.owner, .int .i64 r.epoch] 27)
 have B0 := Blk.new w 27 [.int .i64 r.first, .int .i64 r.last, .int .i64 r.owner, .int .i64 r.epoch]
 have HF := jh hf
 clear hr hf
 go_enter Tryz.func190, Tryz.ntmps190
 go_upto_region 1 with fail
 have hs1 : (w.alloc (.cells #[.int .i64 r.first, .int .i64 r.last, .int .i64 r.owner, .int .i64 r.epoch] 27)).heap.size = w.heap.size + 1 := by simp
 generalize hw1 : (w.alloc (.cells #[.int .i64 r.first, .int .i64 r.last, .int .i64 r.owner, .int .i64 r.epoch] 27)) = w1 at *
 clear hw1
 have HB := jh (ja hb0 (ja B0 hs1))
 clear hb0 B0 hs1
 go_wp2_with fail
 go_loopw [4, 11] (fun ov i wr => ∃ k : Nat, k ≤ l.length ∧ i = .int .i64 k ∧ RangeR.Own wr w1.heap.size 27 (fun _ => True) ov (aroundR (l.take k) r) ∧ Below w1.heap.size w1 wr) (fun _ i _ => l.length - (intOf i).toNat)
 case atStart => exact ⟨0, Nat.zero_le _, rfl, by rw [List.take_zero]; exact Rep.Own.nil_, jb _ _⟩
 case round =>
  obtain ⟨k, hk, rfl, hown, hbl⟩ := hrel
  by_cases hlt : k < l.length
  ·have hlk := jg hlt
   have hts := take_snoc l k hlt
   obtain ⟨bb, o, cs, rfl, hP, hbw, hrep, hcs⟩ := (HR.out.ext (HB.out.1.tr hbl)).at_ hlk
   generalize l[k] = x at *
   obtain ⟨rfl, hfx⟩ := range_rep.1 hrep
   have c0 := hcs 0 _ rfl; have c1 := hcs 1 _ rfl; have c2 := hcs 2 _ rfl; have c3 := hcs 3 _ rfl; simp only [RangeR_size, Nat.add_zero] at c0 c1 c2 c3
   have HTS := jh (ja hts hfx)
   have hlt' : (k : Int) < l.length := by omega
   have hbx := (jb wr.heap.size wr).al (.cells #[.int .i64 x.first, .int .i64 x.last, .int .i64 x.owner, .int .i64 x.epoch] 27)
   have BX := Blk.new wr 27 [.int .i64 x.first, .int .i64 x.last, .int .i64 x.owner, .int .i64 x.epoch]
   clear hlk hts hrep hcs hfx
   go_upto_region 4 with fail
   have hsx : (wr.alloc (.cells #[.int .i64 x.first, .int .i64 x.last, .int .i64 x.owner, .int .i64 x.epoch] 27)).heap.size = wr.heap.size + 1 := by simp
   generalize hw2 : (wr.alloc (.cells #[.int .i64 x.first, .int .i64 x.last, .int .i64 x.owner, .int .i64 x.epoch] 27)) = w2 at *
   have HO := jh (ja (hown.ext hbx) (ja hown (ja (hbl.tr hbx) (ja BX (ja (HB.out.2.1.ext (hbl.tr hbx)) hsx)))))
   have y0 := On.cell (BX.cell 0 : w2.cell? ⟨wr.heap.size, 0, none⟩ = some (.int .i64 x.first))
   have y1 := On.cell (BX.cell 1 : w2.cell? ⟨wr.heap.size, 1, none⟩ = some (.int .i64 x.last))
   have y2 := On.cell (BX.cell 2 : w2.cell? ⟨wr.heap.size, 2, none⟩ = some (.int .i64 x.owner))
   have y3 := On.cell (BX.cell 3 : w2.cell? ⟨wr.heap.size, 3, none⟩ = some (.int .i64 x.epoch))
   obtain ⟨Ao, co, rfl, _⟩ := hown.form
   have hlo := jb w2.heap.size w2
   have HZR := jh (show w1.heap.size ≤ wr.heap.size from hbl.size)
   clear hw2 hbx BX hsx hown hbl c0 c1 c2 c3
   go_cut [7, 8] (fun av bv wx => ∃ ga gb : Nat, av = .pointer (some ⟨ga, 0, none⟩) ∧ bv = .pointer (some ⟨gb, 0, none⟩) ∧ Blk wx ga 27 x.cells ∧ Blk wx gb 27 x.cells ∧ ga ≠ gb ∧ w2.heap.size ≤ ga ∧ w2.heap.size ≤ gb ∧ Below w2.heap.size w2 wx)
   case first =>
    refine wp_region_mix (.fork [0, 1] 2 (.seg [] 3 (.seg [] 4 (.seg [] 5 (.leaf [])))) 3 (.seg [] 2 (.seg [] 4 (.seg [] 5 (.leaf []))))) (fun w' => ∃ d : Wd (On w2), w' = d.w) (by kernel_rfl) (by kernel_rfl) (fun _ _ d _ _ h => by cases d <;> exact h) (ClsW.mk hlo.drew) ?_
    unfold wpMix; simp only [pick, j1, j2, j3, j4]
    (repeat (show wpQuiet _ _ _ _ (_ :: _) _; go_big_quiet_step (fail))); refine qn ?_
    constructor
    ·go_wp2_with fail
     have hba := (jb w2.heap.size w2).al (.cells #[.int .i64 0, .int .i64 0, .int .i64 0, .int .i64 0] 27)
     (refine segw (D := On w2) (hba.drew) ?_; unfold wpMix; simp only [pick, j1, j2, j3, j4]; (repeat (show wpQuiet _ _ _ _ (_ :: _) _; go_big_quiet_step (fail))); refine qn ?_)
     go_wp2_with fail
     have hbb := (hba.al (.cells #[.int .i64 0, .int .i64 0, .int .i64 0, .int .i64 0] 27)).drew
     (refine segw (D := On w2) (hbb) ?_; unfold wpMix; simp only [pick, j1, j2, j3, j4]; (repeat (show wpQuiet _ _ _ _ (_ :: _) _; go_big_quiet_step (fail))); refine qn ?_)
     refine wpList_store_blk (cs := x.cells) rfl rfl rfl rfl rfl (((Blk.new w2 27 [.int .i64 0, .int .i64 0, .int .i64 0, .int .i64 0]).alloc (.cells #[.int .i64 0, .int .i64 0, .int .i64 0, .int .i64 0] 27)).ext (jb _ _).drew) (by kernel_rfl) rfl (by simp [Range.cells, Value.oneCell']) ?_
     intro w4 hB4 hO4 hz4
     have hN4 := ((Blk.new1 w2 (.cells #[.int .i64 0, .int .i64 0, .int .i64 0, .int .i64 0] 27) 27 [.int .i64 0, .int .i64 0, .int .i64 0, .int .i64 0]).ext (jb _ _).drew).only hO4 (by simp)
     have hb4 := hbb.trans (hO4.low (fun k e => by have e' : k = w2.heap.size := e; omega) hbb.size)
     (refine segw (D := On w2) (hb4) ?_; unfold wpMix; simp only [pick, j1, j2, j3, j4]; (repeat (show wpQuiet _ _ _ _ (_ :: _) _; go_big_quiet_step (fail))); refine qn ?_)
     refine wpList_store_blk (cs := x.cells) rfl rfl rfl rfl rfl hN4 (by kernel_rfl) rfl (by simp [Range.cells, Value.oneCell']) ?_
     intro w5 hB5 hO5 hz5
     have hA5 := hB4.only hO5 (by simp)
     have hb5 := hb4.trans (hO5.low (fun k e => by have e' : k = _ := e; rw [e']; simp) hb4.size)
     (refine segw (D := On w2) (hb5) ?_; unfold wpMix; simp only [pick, j2]; (repeat (show wpQuiet _ _ _ _ (_ :: _) _; go_big_quiet_step (fail))); refine qn ?_)
     have HZ := jh (ja hA5 (ja hB5 hb5))
     go_wp2_with fail
     go_meet
     exact ⟨_, _, rfl, rfl, HZ.out.1, HZ.out.2.1, by simp, Nat.le_refl _, by simp, HZ.out.2.2⟩
    ·go_wp2_with fail
     have hba := (jb w2.heap.size w2).al (.cells #[.int .i64 0, .int .i64 0, .int .i64 0, .int .i64 0] 27)
     (refine segw (D := On w2) (hba.drew) ?_; unfold wpMix; simp only [pick, j1, j2, j3, j4]; (repeat (show wpQuiet _ _ _ _ (_ :: _) _; go_big_quiet_step (fail))); refine qn ?_)
     go_wp2_with fail
     have hbb := (hba.al (.cells #[.int .i64 0, .int .i64 0, .int .i64 0, .int .i64 0] 27)).drew
     (refine segw (D := On w2) (hbb) ?_; unfold wpMix; simp only [pick, j1, j2, j3, j4]; (repeat (show wpQuiet _ _ _ _ (_ :: _) _; go_big_quiet_step (fail))); refine qn ?_)
     refine wpList_store_blk (cs := x.cells) rfl rfl rfl rfl rfl ((Blk.new1 w2 (.cells #[.int .i64 0, .int .i64 0, .int .i64 0, .int .i64 0] 27) 27 [.int .i64 0, .int .i64 0, .int .i64 0, .int .i64 0]).ext (jb _ _).drew) (by kernel_rfl) rfl (by simp [Range.cells, Value.oneCell']) ?_
     intro w4 hB4 hO4 hz4
     have hN4 := (((Blk.new w2 27 [.int .i64 0, .int .i64 0, .int .i64 0, .int .i64 0]).alloc (.cells #[.int .i64 0, .int .i64 0, .int .i64 0, .int .i64 0] 27)).ext (jb _ _).drew).only hO4 (by simp)
     have hb4 := hbb.trans (hO4.low (fun k e => by have e' : k = _ := e; rw [e']; simp) hbb.size)
     (refine segw (D := On w2) (hb4) ?_; unfold wpMix; simp only [pick, j1, j2, j3, j4]; (repeat (show wpQuiet _ _ _ _ (_ :: _) _; go_big_quiet_step (fail))); refine qn ?_)
     refine wpList_store_blk (cs := x.cells) rfl rfl rfl rfl rfl hN4 (by kernel_rfl) rfl (by simp [Range.cells, Value.oneCell']) ?_
     intro w5 hB5 hO5 hz5
     have hA5 := hB4.only hO5 (by simp)
     have hb5 := hb4.trans (hO5.low (fun k e => by have e' : k = w2.heap.size := e; omega) hb4.size)
     (refine segw (D := On w2) (hb5) ?_; unfold wpMix; simp only [pick, j2]; (repeat (show wpQuiet _ _ _ _ (_ :: _) _; go_big_quiet_step (fail))); refine qn ?_)
     have HZ := jh (ja hA5 (ja hB5 hb5))
     go_wp2_with fail
     go_meet
     exact ⟨_, _, rfl, rfl, HZ.out.1, HZ.out.2.1, by simp, by simp, Nat.le_refl _, HZ.out.2.2⟩
   case rest =>
    clear y0 y1 y2 y3 hlo
    obtain ⟨ga, gb, rfl, rfl, hA, hB, hne, hga, hgb, hbc⟩ := hcut
    have hzx := HO.out.2.2.2.2.2
    have hD : ArD wr.heap.size w.heap.size x r wc := ⟨HO.out.2.2.2.1.ext hbc, HO.out.2.2.2.2.1.ext hbc⟩
    haveI : Nonempty (Wd (ArD wr.heap.size w.heap.size x r)) := ⟨⟨_, hD⟩⟩
    have y0 := ArD.x0 (xb := wr.heap.size) (rb := w.heap.size) (x := x) (r := r)
    have y1 := ArD.x1 (xb := wr.heap.size) (rb := w.heap.size) (x := x) (r := r)
    have z0 := ArD.r0 (xb := wr.heap.size) (rb := w.heap.size) (x := x) (r := r)
    have z1 := ArD.r1 (xb := wr.heap.size) (rb := w.heap.size) (x := x) (r := r)
    go_upto_region 5 with fail
    refine wp_region_mix (.seg [0, 1, 2, 3, 4, 5, 6, 7, 8, 9, 10, 11, 12] 13 (.seg [14] 15 (.leaf []))) (fun w' => ∃ d : Wd (ArD wr.heap.size w.heap.size x r), w' = d.w) (by kernel_rfl) (by kernel_rfl) (fun _ _ d _ _ h => by cases d <;> exact h) (ClsW.mk (D := ArD wr.heap.size w.heap.size x r) ⟨hD.x.drew, hD.r.drew⟩) ?_
    unfold wpMix; simp only [pick, j1, j2, j3, j4]
    (repeat (show wpQuiet _ _ _ _ (_ :: _) _; go_big_quiet_step (fail))); refine qn ?_
    have hA' := hA.drew
    have hB' := hB.drew
    have hO2 := HO.out
    obtain ⟨lo, hlo⟩ : ∃ q, q = min x.last (r.first - 1) := ⟨_, rfl⟩
    obtain ⟨hi, hhi⟩ : ∃ q, q = max x.first (r.last + 1) := ⟨_, rfl⟩
    rw [← hlo, ← hhi]
    have ca : wc.drew.cell? ⟨ga, 1, none⟩ = some (.int .i64 x.last) := hA'.cell 1
    have fa := hA'.frozen 1
    have HLH := jh (ja hlo hhi)
    clear hlo hhi
    have hrx : w.heap.size ≠ wr.heap.size := by have := HB.out.2.2; have := HZR.out; omega
    have hzx := HO.out.2.2.2.2.2
    have n1 : wr.heap.size ≠ ga := by omega
    have n2 : w.heap.size ≠ ga := by have := HB.out.2.1.lt; have := HO.out.2.2.1.size; omega
    have n3 : wr.heap.size ≠ gb := by omega
    have n4 : w.heap.size ≠ gb := by have := HB.out.2.1.lt; have := HO.out.2.2.1.size; omega
    go_wp2_with fail
    have hD2 : ArD wr.heap.size w.heap.size x r ((wc.setCell ⟨ga, 1, none⟩ (.int .i64 lo)).drew) := ⟨(hD.x.only (Only.set_ (F := (· = ga)) rfl _) n1).drew, (hD.r.only (Only.set_ (F := (· = ga)) rfl _) n2).drew⟩
    dsimp only [wpList, SegQ]
    refine ⟨fun w' => ∃ d : Wd (ArD wr.heap.size w.heap.size x r), w' = d.w, ClsW.mk (D := ArD wr.heap.size w.heap.size x r) hD2, fun _ h => h, ?_⟩
    unfold wpMix; simp only [pick, j1, j2, j3, j4]
    (repeat (show wpQuiet _ _ _ _ (_ :: _) _; go_big_quiet_step (fail))); refine qn ?_
    have hB2 := (hB.only (Only.set_ (F := (· = ga)) (p := ⟨ga, 1, none⟩) rfl (.int .i64 lo)) (fun e => hne e.symm)).drew
    have cb : ((wc.setCell ⟨ga, 1, none⟩ (.int .i64 lo)).drew).cell? ⟨gb, 0, none⟩ = some (.int .i64 x.first) := hB2.cell 0
    have fb := hB2.frozen 0
    clear ca fa
    go_wp2_with fail
    have hD3 : ArD wr.heap.size w.heap.size x r (((wc.setCell ⟨ga, 1, none⟩ (.int .i64 lo)).setCell ⟨gb, 0, none⟩ (.int .i64 hi)).drew) := ⟨((hD.x.only (Only.set_ (F := (· = ga)) (p := ⟨ga, 1, none⟩) rfl (.int .i64 lo)) n1).only (Only.set_ (F := (· = gb)) rfl _) n3).drew, ((hD.r.only (Only.set_ (F := (· = ga)) (p := ⟨ga, 1, none⟩) rfl (.int .i64 lo)) n2).only (Only.set_ (F := (· = gb)) rfl _) n4).drew⟩
    dsimp only [wpList, SegQ]
    refine ⟨fun w' => ∃ d : Wd (ArD wr.heap.size w.heap.size x r), w' = d.w, ClsW.mk (D := ArD wr.heap.size w.heap.size x r) hD3, fun _ h => h, ?_⟩
    unfold wpMix; simp only [pick, j2]
    (repeat (show wpQuiet _ _ _ _ (_ :: _) _; go_big_quiet_step (fail))); refine qn ?_
    have hA3 := ((hA.set_ 1 (.int .i64 lo)).only (Only.set_ (F := (· = gb)) (p := ⟨gb, 0, none⟩) rfl (.int .i64 hi)) hne).drew
    have hB3 := ((hB.only (Only.set_ (F := (· = ga)) (p := ⟨ga, 1, none⟩) rfl (.int .i64 lo)) (fun e => hne e.symm)).set_ 0 (.int .i64 hi)).drew
    have hb3 := ((hbc.st (p := ⟨ga, 1, none⟩) hga (.int .i64 lo)).st (p := ⟨gb, 0, none⟩) hgb (.int .i64 hi)).drew
    have hS3 : ArS ga gb wr.heap.size w.heap.size w1.heap.size [.int .i64 x.first, .int .i64 lo, .int .i64 x.owner, .int .i64 x.epoch] [.int .i64 hi, .int .i64 x.last, .int .i64 x.owner, .int .i64 x.epoch] x r w1 (.slice Ao (aroundR (l.take k) r).length co) (aroundR (l.take k) r) (((wc.setCell ⟨ga, 1, none⟩ (.int .i64 lo)).setCell ⟨gb, 0, none⟩ (.int .i64 hi)).drew) :=
     ⟨HO.out.1.ext hb3, hA3, hB3, hD3.x, hD3.r, fun q hq => by
      have h1 := (HO.out.2.1.lt q hq)
      have h2 := HB.out.2.1.lt
      refine ⟨?_, ?_, ?_, ?_⟩ <;> omega, HO.out.2.2.1.tr hb3⟩
    generalize hw7 : ((wc.setCell ⟨ga, 1, none⟩ (.int .i64 lo)).setCell ⟨gb, 0, none⟩ (.int .i64 hi)).drew = w7 at *
    have HS := jh hS3
    clear hw7 hA3 hB3 hb3 hD3 hD2 hD hB2 cb fb hA' hB' hO2 y0 y1 z0 z1 hA hB hbc
    have c0 : w7.cell? ⟨ga, 0, none⟩ = some (.int .i64 x.first) := hS3.low.cell 0
    have c1 : w7.cell? ⟨ga, 1, none⟩ = some (.int .i64 lo) := hS3.low.cell 1
    clear hS3
    go_upto_if 35 with fail
    have hal : (aroundR (l.take k) r).length ≤ 3000 := by
     have h1 := around_len (l.take k) r
     rw [List.length_take] at h1
     omega
    have hfx := HTS.out.2
    have hfr := HF.out
    have hlo64 : i64 lo := by
     rw [HLH.out.1]
     have h1 := hfx.2.1
     have h2 := hfr.1
     unfold i64 at *
     omega
    have hhi64 : i64 hi := by
     rw [HLH.out.2]
     have h1 := hfx.1
     unfold i64 at *
     omega
    have FL : Range.fit ⟨x.first, lo, x.owner, x.epoch⟩ := ⟨hfx.1, hlo64, hfx.2.2.1, hfx.2.2.2⟩
    have FH : Range.fit ⟨hi, x.last, x.owner, x.epoch⟩ := ⟨hhi64, hfx.2.1, hfx.2.2.1, hfx.2.2.2⟩
    obtain ⟨i0, e1, e2, e3, e4⟩ := info_parts range_info
    go_cut [4] (fun ov wx => ArS ga gb wr.heap.size w.heap.size w1.heap.size [.int .i64 x.first, .int .i64 lo, .int .i64 x.owner, .int .i64 x.epoch] [.int .i64 hi, .int .i64 x.last, .int .i64 x.owner, .int .i64 x.epoch] x r w1 ov (aroundR (l.take k) r ++ (if x.first ≤ lo then [(⟨x.first, lo, x.owner, x.epoch⟩ : Range)] else [])) wx)
    case first =>
     by_cases ht : x.first ≤ lo
     ·have c2 : w7.cell? ⟨ga, 2, none⟩ = some (.int .i64 x.owner) := HS.out.low.cell 2
      have c3 : w7.cell? ⟨ga, 3, none⟩ = some (.int .i64 x.epoch) := HS.out.low.cell 3
      have HT := jh ht
      go_wp2_with (first
       | (at_builtin; refine wpList_append_new (R := RangeR) w7 rfl (.tmp 36) (.tmp 38) _ rfl w1.heap.size 27 i0 _ 32 Tryz.underlying58 e1 e2 e3 e4 rfl _ (aroundR (l.take k) r) (fun _ => True) rfl HS.out.own (fun _ _ => trivial) rfl (fun _ => False) _ (range_rep.2 ⟨rfl, FL⟩) (fun _ h => h.elim) (by unfold maxLen; omega) (by omega) HS.out.below.size ?_; intro v8 w8 ho hg hat hn hb)
       | fail)
      have HM := jh (HS.out.app ho hg hat hb)
      clear ho hg hat hn hb
      go_wp2_with fail
      go_meet
      rw [if_pos HT.out]; exact HM.out
     ·have HT := jh ht
      go_wp2_with fail
      go_meet
      rw [if_neg (by have := HT.out; omega), List.append_nil]; exact HS.out
    case rest =>
     clear c0 c1 HS
     have HS := jh hcut
     obtain ⟨Aq, cq, rfl, _⟩ := hcut.own.form
     have hal2 : (aroundR (l.take k) r ++ (if x.first ≤ lo then [(⟨x.first, lo, x.owner, x.epoch⟩ : Range)] else [])).length ≤ 3001 := by rw [List.length_append]; split <;> simp <;> omega
     have r0 : wc.cell? ⟨w.heap.size, 0, none⟩ = some (.int .i64 r.first) := hcut.r.cell 0
     have x0 : wc.cell? ⟨wr.heap.size, 0, none⟩ = some (.int .i64 x.first) := hcut.x.cell 0
     have x1 : wc.cell? ⟨wr.heap.size, 1, none⟩ = some (.int .i64 x.last) := hcut.x.cell 1
     clear hcut
     have HACC := jh (around_snoc (l := l.take k) HLH.out.1 HLH.out.2)
     rw [← HTS.out.1] at HACC
     generalize aroundR (l.take k) r ++ (if x.first ≤ lo then [(⟨x.first, lo, x.owner, x.epoch⟩ : Range)] else []) = acc1 at *
     by_cases hq : x.first ≤ r.first
     all_goals
      have HQ := jh hq
      go_upto_if 51 with fail
      go_cut [4] (fun ov wx => ArS ga gb wr.heap.size w.heap.size w1.heap.size [.int .i64 x.first, .int .i64 lo, .int .i64 x.owner, .int .i64 x.epoch] [.int .i64 hi, .int .i64 x.last, .int .i64 x.owner, .int .i64 x.epoch] x r w1 ov (acc1 ++ (if x.first ≤ r.first ∧ r.first ≤ x.last then [r] else [])) wx)
      case first =>
       clear hq
       by_cases hq : x.first ≤ r.first
       ·by_cases ht : r.first ≤ x.last
        ·have r1 : wc.cell? ⟨w.heap.size, 1, none⟩ = some (.int .i64 r.last) := HS.out.r.cell 1
         have r2 : wc.cell? ⟨w.heap.size, 2, none⟩ = some (.int .i64 r.owner) := HS.out.r.cell 2
         have r3 : wc.cell? ⟨w.heap.size, 3, none⟩ = some (.int .i64 r.epoch) := HS.out.r.cell 3
         have HT := jh (ja hq ht)
         first
          | exact absurd hq HQ.out
          | (go_wp2_with (first
           | (at_builtin; refine wpList_append_new (R := RangeR) wc rfl (.tmp 52) (.tmp 54) _ rfl w1.heap.size 27 i0 _ 32 Tryz.underlying58 e1 e2 e3 e4 rfl _ acc1 (fun _ => True) rfl HS.out.own (fun _ _ => trivial) rfl (fun _ => False) _ (range_rep.2 ⟨rfl, hfr⟩) (fun _ h => h.elim) (by unfold maxLen; omega) (by omega) HS.out.below.size ?_; intro v8 w8 ho hg hat hn hb)
           | fail)
             have HM := jh (HS.out.app ho hg hat hb)
             clear ho hg hat hn hb
             go_wp2_with fail
             go_meet
             rw [if_pos HT.out]; exact HM.out)
        ·have HT := jh (show ¬ (x.first ≤ r.first ∧ r.first ≤ x.last) from fun h => ht h.2)
         first
          | exact absurd hq HQ.out
          | (go_wp2_with fail
             go_meet
             rw [if_neg (by have := HT.out; omega), List.append_nil]; exact HS.out)
       ·first
         | exact absurd HQ.out hq
         | (have HT := jh (show ¬ (x.first ≤ r.first ∧ r.first ≤ x.last) from fun h => hq h.1)
            go_wp2_with fail
            go_meet
            rw [if_neg (by have := HT.out; omega), List.append_nil]; exact HS.out)
      case rest =>
       clear r0 x0 x1 HS
       have HS := jh hcut
       obtain ⟨Ap, cp, rfl, _⟩ := hcut.own.form
       have hal3 : (acc1 ++ (if x.first ≤ r.first ∧ r.first ≤ x.last then [r] else [])).length ≤ 3002 := by rw [List.length_append]; split <;> simp <;> omega
       have h0' : wc.cell? ⟨gb, 0, none⟩ = some (.int .i64 hi) := hcut.high.cell 0
       have h1' : wc.cell? ⟨gb, 1, none⟩ = some (.int .i64 x.last) := hcut.high.cell 1
       have HGO := jh (show ∀ z, z = (if hi ≤ x.last then [(⟨hi, x.last, x.owner, x.epoch⟩ : Range)] else []) → aroundR (l.take (k + 1)) r = (acc1 ++ (if x.first ≤ r.first ∧ r.first ≤ x.last then [r] else [])) ++ z from fun z hz => by rw [hz]; exact HACC.out)
       clear hcut hq
       generalize acc1 ++ (if x.first ≤ r.first ∧ r.first ≤ x.last then [r] else []) = acc2 at *
       by_cases ht : hi ≤ x.last
       ·have HT := jh ht
        have h2' : wc.cell? ⟨gb, 2, none⟩ = some (.int .i64 x.owner) := HS.out.high.cell 2
        have h3' : wc.cell? ⟨gb, 3, none⟩ = some (.int .i64 x.epoch) := HS.out.high.cell 3
        go_wp2_with (first
         | (at_builtin; refine wpList_append_new (R := RangeR) wc rfl (.tmp 61) (.tmp 63) _ rfl w1.heap.size 27 i0 _ 32 Tryz.underlying58 e1 e2 e3 e4 rfl _ acc2 (fun _ => True) rfl HS.out.own (fun _ _ => trivial) rfl (fun _ => False) _ (range_rep.2 ⟨rfl, FH⟩) (fun _ h => h.elim) (by unfold maxLen; omega) (by omega) HS.out.below.size ?_; intro v8 w8 ho hg hat hn hb)
         | fail)
        have HM := jh (HS.out.app ho hg hat hb)
        clear ho hg hat hn hb h0' h1' h2' h3'
        go_wp2_with fail
        go_round
        case rel => exact ⟨k + 1, by omega, by go_num, by rw [HGO.out _ rfl, if_pos HT.out]; exact HM.out.own, HM.out.below⟩
        case measure => (simp [intOf]; omega)
       ·have HT := jh ht
        go_wp2_with fail
        go_round
        case rel => exact ⟨k + 1, by omega, by go_num, by rw [HGO.out _ rfl, if_neg (by have := HT.out; omega), List.append_nil]; exact HS.out.own, HS.out.below⟩
        case measure => (simp [intOf]; omega)
  ·have hkn : k = l.length := by omega
   subst hkn
   rw [List.take_length] at hown
   have HO := jh (ja hown (HB.out.1.tr hbl))
   obtain ⟨Ao, co, rfl, _⟩ := hown.form
   clear hown hbl
   go_wp2_with fail
   go_ret
   exact ⟨⟨_, rfl, (HO.out.1.plain range_plain).base' (by have := HB.out.2.2; omega)⟩, HO.out.2⟩
end Go.Proofs.YtcmjgghkmdbphaaGreatDoor
namespace Go.Proofs.YtcmjgghkmdbphaaGreatDoor
open Go.RowKit
theorem Blk.not_map {w : World} {b m : Nat} {t : TypeId} {cs : List Value} {ps : List (Str × Value)} (h : Blk w b t cs) (hM : MapAt strE w m ps) : b ≠ m := by
 intro e
 subst e
 obtain ⟨es, c, he, _⟩ := hM
 unfold Blk at h
 rw [h] at he
 cases he
theorem StrsAt.del {w w' : World} {P : Nat → Prop} {m : Nat} {TA : TabA} {n : Str} (h : StrsAt w P m TA) (hb : Only (· = m) w w') (hM : MapAt strE w' m (assocDel n TA.ptrs)) : StrsAt w' P m (delA n TA) := by
 refine ⟨?_, delA_nodup h.nd, fun p hp => ?_, h.apart.sublist (delA_sub n TA)⟩
 ·rw [assocDel_eq] at hM
  have e : TabA.ptrs (delA n TA) = delA n TA.ptrs := by unfold TabA.ptrs; rw [← delA_map (fun q : TS × SB => ptrV q.2.b)]
  rw [e]; exact hM
 ·have hq := h.each p ((delA_sub n TA).subset hp)
  have hnm := hq.1.not_map h.map
  exact ⟨hq.1.same (P := fun g => g ≠ m) ⟨fun e => hnm.1 e.symm, hq.2.1, fun g hg e => hnm.2 (e ▸ hg)⟩ (Same.of_only hb fun k hk e => hk e), hq.2⟩
theorem tab_del (n : Str) (TA : TabA) : TabA.tab (delA n TA) = delA n TA.tab := by unfold TabA.tab; rw [← delA_map (fun q : TS × SB => q.1)]
theorem drop_any (tb : Nat) (T : Tab) (r : Range) (P : Nat → Prop) (w : World) (h : TabAt w P tb T) (hl : T.length ≤ 40000) :
 Calls Tryz.prog 192 #[ptrV tb, .agg #[.int .i64 r.first, .int .i64 r.last, .int .i64 r.owner, .int .i64 r.epoch]] w fun e w' => (∃ n : Int, e = .returned (.int .i64 n)) ∧ TabAt w' P tb (dropT T r) ∧ Only (fun q => P q ∧ q < w.heap.size) w w' := by
 have hb0 := (jb w.heap.size w).al (.cells #[.int .i64 r.first, .int .i64 r.last, .int .i64 r.owner, .int .i64 r.epoch] 27)
 have C := some_any tb T r P (w.alloc (.cells #[.int .i64 r.first, .int .i64 r.last, .int .i64 r.owner, .int .i64 r.epoch] 27)) (h.ext hb0) (by omega)
 have HT := jh h
 have hln : (someT T r).length ≤ 40000 := by
  have h1 : (someT T r).length ≤ (sortS (T.map (·.1))).length := List.length_filter_le _ _
  rw [sortS_len, List.length_map] at h1
  omega
 unfold ptrV Range.val at C
 unfold ptrV
 have HD := jh (show dropT T r = (someT T r).foldl (fun T n => delA n T) T from rfl)
 have hnil : T = [] → someT T r = [] := fun e => by
  have h1 : (someT T r).length ≤ (sortS (T.map (·.1))).length := List.length_filter_le _ _
  rw [sortS_len, List.length_map, e] at h1
  exact List.eq_nil_of_length_eq_zero (by simpa [e] using h1)
 clear h
 go_enter Tryz.func192, Tryz.ntmps192
 go_wp2_with fail
 refine C.mono ?_
 clear C
 rintro e w1 ⟨⟨v, rfl, ho⟩, hb1⟩
 have hw1 := hb0.tr hb1
 have hz1 := hw1.size
 obtain ⟨A, c, rfl, _⟩ := ho.form
 have hz0 : (w.alloc (.cells #[.int .i64 r.first, .int .i64 r.last, .int .i64 r.owner, .int .i64 r.epoch] 27)).heap.size = w.heap.size + 1 := by simp
 have HN := jh (ja (ho.row' (P := fun q => w.heap.size ≤ q) str_plain (fun q hq => by have := (ho.lt q hq).1; omega)) hw1)
 have hT1 := HT.out.ext hw1
 have HNIL := jh hnil
 generalize someT T r = names at *
 have hnl : ((names.length : Nat) : Int) ≤ 40000 := by omega
 clear ho hb0 hb1 hw1 hz0 hnil
 obtain ⟨hPt, ⟨hB, h0⟩ | ⟨m, TA, hB, hPm, hS, hTe⟩⟩ := hT1
 ·have hn0 := HNIL.out h0
  subst hn0
  have HX := jh (ja hB h0)
  clear hB h0
  simp only [List.length_nil]
  go_wp2_with fail
  go_loopw [13] (fun i wr => i = .int .i64 0 ∧ wr = w1) (fun _ _ => 0)
  case atStart => exact ⟨rfl, rfl⟩
  case round =>
   obtain ⟨rfl, rfl⟩ := hrel
   go_wp2_with fail
   go_ret
   exact ⟨⟨_, rfl⟩, ⟨hPt, .inl ⟨HX.out.1, by rw [HD.out]; exact HX.out.2⟩⟩, jo HN.out.2⟩
 ·have hml := hS.map.lt
  have htl := hB.lt
  have H0 := jh (ja hB (ja hS (ja hTe hPm)))
  have hmw : m < w.heap.size := by
   obtain ⟨_, ⟨hB', _⟩ | ⟨m', TA', hB', _, hS', _⟩⟩ := HT.out
   ·have e1 := (hB'.ext HN.out.2).eq_ hB
    have e2 := e1.1
    injection e2 with e2 _
    injection e2 with e2
    cases e2
   ·have e1 := (hB'.ext HN.out.2).eq_ hB
    have e2 := e1.1
    injection e2 with e2 _
    injection e2 with e2
    injection e2 with e2
    subst e2
    exact hS'.map.lt
  clear hB hS hTe hPm
  go_wp2_with fail
  go_loopw [13] (fun i wr => ∃ (k : Nat) (TA' : TabA), k ≤ names.length ∧ i = .int .i64 k ∧ StrsAt wr P m TA' ∧ TA'.tab = (names.take k).foldl (fun T n => delA n T) T ∧ Only (· = m) w1 wr) (fun i _ => names.length - (intOf i).toNat)
  case atStart => exact ⟨0, TA, Nat.zero_le _, rfl, H0.out.2.1, by rw [List.take_zero]; exact H0.out.2.2.1.symm, Only.refl _ _⟩
  case round =>
   obtain ⟨k, TA', hk, rfl, hS, hTe, hO⟩ := hrel
   have hBr := H0.out.1.only hO (H0.out.1.not_map H0.out.2.1.map)
   have HTE := jh (ja hTe hO)
   clear hTe
   by_cases hlt : k < names.length
   ·have hlk := jg hlt
    have hts := take_snoc names k hlt
    obtain ⟨bb, o, cs, rfl, _, _, ⟨rfl, _⟩, hcs⟩ := (HN.out.1.same (w' := wr) (Same.of_only hO fun q hq e => by have e' : q = m := e; omega) hO.size).at_ hlk
    generalize names[k] = n at *
    have c0 := hcs 0 _ rfl; simp only [StrR_size, Nat.add_zero, Nat.mul_one] at c0
    have HTS := jh hts
    have y0 : wr.cell? ⟨tb, 0, none⟩ = some (.map (some m)) := hBr.cell 0
    have hlt' : (k : Int) < names.length := by omega
    have hM := hS.map
    have HS := jh hS
    clear hlk hts hcs hBr hO hS
    go_wp2_with (first
     | (at_delete; refine wpList_delete_map strKey rfl (.tmp 20) (.tmp 21) 250 rfl Tryz.underlying250 rfl hM n rfl ?_; intro w4 hM4 hO4)
     | fail)
    have hS4 := HS.out.del hO4 hM4
    have HS4 := jh (ja hS4 (HTE.out.2.tr hO4))
    clear hM hM4 hO4 hS4
    go_wp2_with fail
    go_round
    case rel => exact ⟨k + 1, delA n TA', by omega, by go_num, HS4.out.1, by rw [tab_del, HTE.out.1, HTS.out, List.foldl_append]; rfl, HS4.out.2⟩
    case measure => simp [intOf]; omega
   ·have hkn : k = names.length := by omega
    subst hkn
    have HB := jh (ja hBr hS)
    clear hBr hS hO
    go_wp2_with fail
    go_ret
    refine ⟨⟨_, rfl⟩, ⟨hPt, .inr ⟨m, TA', HB.out.1, H0.out.2.2.2, HB.out.2, ?_⟩⟩, ?_⟩
    ·have h1 := HTE.out.1
     rw [List.take_length] at h1
     rw [HD.out, h1]
    ·exact (jo HN.out.2).trans HTE.out.2 fun q hq e => by have e' : q = m := e; subst e'; exact ⟨H0.out.2.2.2, hq⟩
end Go.Proofs.YtcmjgghkmdbphaaGreatDoor
namespace Go.Proofs.YtcmjgghkmdbphaaGreatDoor
open Go.RowKit
theorem installHas_any (b : Nat) (r : Rec) (nA pA sA : Option Addr) (nc pc sc : Nat) (x : Stream) (A A' : Option Addr) (c c' : Nat) (w : World) (hb : Blk w b 46 (r.cells nA nc pA pc sA sc)) (hs : sfit x.name) :
 Calls Tryz.prog 188 #[.agg #[.string x.name, .slice A x.events.length c, .slice A' x.keys.length c'], .pointer (some ⟨b, 0, none⟩)] w fun e w' => e = .returned (.bool (!r.range.has (hashS x.name))) ∧ Below w.heap.size w w' := by
 have hb0 := (jb w.heap.size w).al (.cells #[.string x.name, .slice A x.events.length c, .slice A' x.keys.length c'] 199)
 have B0 := Blk.new w 199 [.string x.name, .slice A x.events.length c, .slice A' x.keys.length c']
 have C1 := fun W => hashI_any x.name W hs
 have C2 := fun W => has_any r.range (hashS x.name) W
 unfold Range.val at C2
 have BR := hb.ext hb0
 clear hs hb
 go_enter Tryz.func188, Tryz.ntmps188
 go_upto_region 1 with fail
 generalize hw1 : (w.alloc (.cells #[.string x.name, .slice A x.events.length c, .slice A' x.keys.length c'] 199)) = w1 at *
 clear hw1
 have z0 := On.cell (BR.cell 13 : w1.cell? ⟨b, 13, none⟩ = some (.int .i64 r.range.first))
 have z1 := On.cell (BR.cell 14 : w1.cell? ⟨b, 14, none⟩ = some (.int .i64 r.range.last))
 have z2 := On.cell (BR.cell 15 : w1.cell? ⟨b, 15, none⟩ = some (.int .i64 r.range.owner))
 have z3 := On.cell (BR.cell 16 : w1.cell? ⟨b, 16, none⟩ = some (.int .i64 r.range.epoch))
 have y0 := On.cell (B0.cell 0 : w1.cell? ⟨w.heap.size, 0, none⟩ = some (.string x.name))
 have hlo := jb w1.heap.size w1
 have HB0 := jh hb0
 clear BR B0 hb0
 refine wp_region_mix (.seg [0, 1, 2, 3] 4 (.seg [] 5 (.leaf [6, 7]))) (fun w' => ∃ d : Wd (On w1), w' = d.w) (by kernel_rfl) (by kernel_rfl) (fun _ _ d _ _ h => by cases d <;> exact h) (ClsW.mk hlo.drew) ?_
 unfold wpMix; simp only [pick, j1, j2, j3, j4]
 (repeat (show wpQuiet _ _ _ _ (_ :: _) _; go_big_quiet_step (fail))); refine qn ?_
 go_wp2_with fail
 refine (C1 _).mono ?_
 rintro e w' ⟨rfl, rfl⟩
 go_wp2_with fail
 (refine segw (D := On w1) (hlo.drew) ?_; unfold wpMix; simp only [pick, j1, j2, j3, j4]; (repeat (show wpQuiet _ _ _ _ (_ :: _) _; go_big_quiet_step (fail))); refine qn ?_)
 go_wp2_with fail
 refine (C2 _).mono ?_
 rintro e w3 ⟨rfl, hb3'⟩
 have hb3 : Below w1.heap.size w1 w3 := hlo.drew.tr hb3'
 have HB3 := jh (HB0.out.tr hb3)
 clear hb3'
 go_wp2_with fail
 (refine segw (D := On w1) (hb3) ?_; unfold wpMix; simp only [pick, j1, j2, j3, j4]; (repeat (show wpQuiet _ _ _ _ (_ :: _) _; go_big_quiet_step (fail))); refine qn ?_)
 clear z0 z1 z2 z3 y0 hlo hb3
 go_wp2_with fail
 go_ret
 exact ⟨rfl, HB3.out⟩
theorem enters_install : ∀ args w, (callFunc 188 args).run Tryz.prog w = .ok (.enter 188 args) w := enters_of Tryz.func188 (by kernel_rfl) rfl
structure InD (g nb : Nat) (s : St) (v : SV) (r : Rec) (nA : Option Addr) (nc : Nat) (pA : Option Addr) (pc : Nat) (sA : Option Addr) (sc : Nat) (W : World) : Prop where
 st : Blk W g 176 (s.cells v)
 ba : Blk W nb 46 (r.cells nA nc pA pc sA sc)
section
variable {g nb : Nat} {s : St} {v : SV} {r : Rec} {nA : Option Addr} {nc : Nat} {pA : Option Addr} {pc : Nat} {sA : Option Addr} {sc : Nat}
theorem InD.c5 (d : Wd (InD g nb s v r nA nc pA pc sA sc)) : d.w.cell? ⟨g, 5, none⟩ = some (.pointer (some ⟨v.tb, 0, none⟩)) := d.ok.st.cell 5
theorem InD.r13 (d : Wd (InD g nb s v r nA nc pA pc sA sc)) : d.w.cell? ⟨nb, 13, none⟩ = some (.int .i64 r.range.first) := d.ok.ba.cell 13
theorem InD.r14 (d : Wd (InD g nb s v r nA nc pA pc sA sc)) : d.w.cell? ⟨nb, 14, none⟩ = some (.int .i64 r.range.last) := d.ok.ba.cell 14
theorem InD.r15 (d : Wd (InD g nb s v r nA nc pA pc sA sc)) : d.w.cell? ⟨nb, 15, none⟩ = some (.int .i64 r.range.owner) := d.ok.ba.cell 15
theorem InD.r16 (d : Wd (InD g nb s v r nA nc pA pc sA sc)) : d.w.cell? ⟨nb, 16, none⟩ = some (.int .i64 r.range.epoch) := d.ok.ba.cell 16
theorem InD.r17 (d : Wd (InD g nb s v r nA nc pA pc sA sc)) : d.w.cell? ⟨nb, 17, none⟩ = some (.slice sA r.streams.length sc) := d.ok.ba.cell 17
theorem InD.only {w w' : World} {F : Nat → Prop} (h : InD g nb s v r nA nc pA pc sA sc w) (hb : Only F w w') (h1 : ¬ F g) (h2 : ¬ F nb) : InD g nb s v r nA nc pA pc sA sc w' := ⟨h.st.only hb h1, h.ba.only hb h2⟩
theorem InD.drew {w : World} (h : InD g nb s v r nA nc pA pc sA sc w) : InD g nb s v r nA nc pA pc sA sc w.drew := ⟨Blk.drew h.st, Blk.drew h.ba⟩
end
theorem spanB_iff {r : Range} : spanB r = true ↔ r.first ≤ r.last ∧ r.last ≤ 4294967295 ∧ 1 ≤ r.epoch ∧ r.epoch ≤ 1099511627776 := by
 simp only [spanB, Bool.and_eq_true, decide_eq_true_eq]
theorem install_any (g : Nat) (s : St) (r : Rec) (nA pA sA : Option Addr) (nc pc sc : Nat) (P Q : Nat → Prop) (w : World) (h : StAt w P g s) (hg : ¬ P g) (hS : Fit s)
 (hr : RecAt w Q r nA nc pA pc sA sc) (hQ : ¬ Q g) (hF : PutFair r.streams) (h0 : 0 ≤ r.range.first) (hrl : s.ring.length ≤ 300) (hfl : (freshT s.table).length ≤ 40000) (hT : Tabs w) (h2 : 2 ≤ g) :
 Calls Tryz.prog 96 #[ptrV g, .agg (r.cells nA nc pA pc sA sc).toArray] w (StOut w P g (installS s r)) := by
 have hgl := h.lt
 have HH := jh (ja h (ja hg (ja hS (ja hr (ja hQ (ja hF hT))))))
 clear h hg hS hr hQ hF hT
 have hb1 := (jb w.heap.size w).al (.cells (r.cells nA nc pA pc sA sc).toArray 46)
 have B0 := Blk.new w 46 (r.cells nA nc pA pc sA sc)
 have hs1 : (w.alloc (.cells (r.cells nA nc pA pc sA sc).toArray 46)).heap.size = w.heap.size + 1 := by simp
 unfold ptrV
 go_enter Tryz.func96, Tryz.ntmps96
 go_upto_region 1 with fail
 refine forget (M := fun W => Code.wp _ _ _ _ W) (fun W => Below w.heap.size w W ∧ Blk W w.heap.size 46 (r.cells nA nc pA pc sA sc) ∧ W.heap.size = w.heap.size + 1) ⟨hb1, B0, hs1⟩ ?_
 clear B0 hb1 hs1
 rintro w1 ⟨hb1, B0, hs1⟩
 have z13 : w1.cell? ⟨w.heap.size, 13, none⟩ = some (.int .i64 r.range.first) := B0.cell 13
 have z14 : w1.cell? ⟨w.heap.size, 14, none⟩ = some (.int .i64 r.range.last) := B0.cell 14
 have z15 : w1.cell? ⟨w.heap.size, 15, none⟩ = some (.int .i64 r.range.owner) := B0.cell 15
 have z16 : w1.cell? ⟨w.heap.size, 16, none⟩ = some (.int .i64 r.range.epoch) := B0.cell 16
 have HSP := jh (show installS s r = (if newerS s r.range = false then (s, 8) else if spanB r.range = false ∨ (r.streams.any fun x => !r.range.has (hashS x.name)) = true ∨ (putT r.streams []).2 ≠ 0 then (s, 1) else if 64 < (aroundR s.ring r.range).length then (s, 11) else ({ s with ring := aroundR s.ring r.range, table := (putT r.streams (dropT (freshT s.table) r.range)).1 }, (putT r.streams (dropT (freshT s.table) r.range)).2)) from rfl)
 have CN := newer_any g s r.range P w1 (by obtain ⟨v', a1, a2⟩ := HH.out.1; exact ⟨v', a1.ext hb1, a2.same (js hb1)⟩) (by omega)
 unfold ptrV at CN
 have H1 := jh (ja hb1 (ja B0 hs1))
 clear hb1 B0 hs1
 go_wp2_with fail
 refine CN.mono ?_
 clear CN z13 z14 z15 z16
 rintro e w2 ⟨rfl, hb2'⟩
 have HB2 := jh (ja (H1.out.1.tr hb2') (H1.out.2.1.ext hb2'))
 clear hb2'
 cases hn : newerS s r.range
 ·have HE := jh (HSP.out.trans (if_pos hn))
  clear hn
  go_wp2_with fail
  go_ret
  unfold StOut
  rw [HE.out]
  obtain ⟨v', a1, a2⟩ := HH.out.1
  exact ⟨rfl, ⟨v', a1.ext HB2.out.1, (a2.same (js HB2.out.1)).mono fun k hk => .inl hk⟩, jo HB2.out.1⟩
 have HE := jh (HSP.out.trans (if_neg (by rw [hn]; simp)))
 clear hn
 go_upto_region 3 with fail
 have z13 := On.cell (HB2.out.2.cell 13 : w2.cell? ⟨w.heap.size, 13, none⟩ = some (.int .i64 r.range.first))
 have z14 := On.cell (HB2.out.2.cell 14 : w2.cell? ⟨w.heap.size, 14, none⟩ = some (.int .i64 r.range.last))
 have z15 := On.cell (HB2.out.2.cell 15 : w2.cell? ⟨w.heap.size, 15, none⟩ = some (.int .i64 r.range.owner))
 have z16 := On.cell (HB2.out.2.cell 16 : w2.cell? ⟨w.heap.size, 16, none⟩ = some (.int .i64 r.range.epoch))
 have z17 := On.cell (HB2.out.2.cell 17 : w2.cell? ⟨w.heap.size, 17, none⟩ = some (.slice sA r.streams.length sc))
 have hlo := jb w2.heap.size w2
 refine wp_region_mix (.seg [0, 1] 2 (.seg [3, 4, 5, 6, 7] 8 (.seg [9, 10, 12, 13] 11 (.seg [] 14 (.leaf [15, 16]))))) (fun w' => ∃ d : Wd (On w2), w' = d.w) (by kernel_rfl) (by kernel_rfl) (fun _ _ d _ _ h => by cases d <;> exact h) (ClsW.mk hlo.drew) ?_
 unfold wpMix; simp only [pick, j1, j2, j3, j4]
 (repeat (show wpQuiet _ _ _ _ (_ :: _) _; go_big_quiet_step (fail))); refine qn ?_
 go_wp2_with fail
 refine (span_any r.range _).mono ?_
 rintro e w3 ⟨rfl, hb3'⟩
 have hb3 : Below w2.heap.size w2 w3 := hlo.drew.tr hb3'
 clear hb3'
 cases hsp : spanB r.range
 ·have HE2 := jh (HE.out.trans (if_pos (.inl hsp)))
  clear hsp
  have HB3 := jh (HB2.out.1.tr hb3)
  go_wp2_with fail
  (refine segw (D := On w2) (hb3) ?_; unfold wpMix; simp only [pick, j1, j2, j3, j4]; (repeat (show wpQuiet _ _ _ _ (_ :: _) _; go_big_quiet_step (fail))); refine qn ?_)
  go_wp2_with fail
  (refine segw (D := On w2) (hb3) ?_; unfold wpMix; simp only [pick, j1, j2, j3, j4]; (repeat (show wpQuiet _ _ _ _ (_ :: _) _; go_big_quiet_step (fail))); refine qn ?_)
  go_wp2_with fail
  (refine segw (D := On w2) (hb3) ?_; unfold wpMix; simp only [pick, j1, j2, j3, j4]; (repeat (show wpQuiet _ _ _ _ (_ :: _) _; go_big_quiet_step (fail))); refine qn ?_)
  go_wp2_with fail
  (refine segw (D := On w2) (hb3) ?_; unfold wpMix; simp only [pick, j1, j2, j3, j4]; (repeat (show wpQuiet _ _ _ _ (_ :: _) _; go_big_quiet_step (fail))); refine qn ?_)
  clear z13 z14 z15 z16 z17 hlo hb3
  go_wp2_with fail
  go_ret
  unfold StOut
  rw [HE2.out]
  obtain ⟨v', a1, a2⟩ := HH.out.1
  exact ⟨rfl, ⟨v', a1.ext HB3.out, (a2.same (js HB3.out)).mono fun k hk => .inl hk⟩, jo HB3.out⟩
 ·have hsb := spanB_iff.1 hsp
  have HSB := jh (ja hsb hsp)
  clear hsp hsb
  have hw3 := HB2.out.1.tr hb3
  have B3 := HB2.out.2.ext hb3
  have C4 := hasF_Stream 188 [.pointer (some ⟨w.heap.size, 0, none⟩)] (fun x => !r.range.has (hashS x.name)) enters_install sA sc r.streams _ w3 (HH.out.2.2.2.1.streams.2.2.ext hw3) (by have := HH.out.2.2.2.2.2.1.1; omega) (fun a cs W _ ha hb' => by
   obtain ⟨Ax, cx, Ay, cy, rfl, hsf, _⟩ := stream_rep.1 ha
   exact installHas_any w.heap.size r nA pA sA nc pc sc a Ax Ay cx cy W (B3.ext hb') hsf)
  have HW3 := jh (ja hw3 hb3)
  go_wp2_with fail
  (refine segw (D := On w2) (hb3) ?_; unfold wpMix; simp only [pick, j1, j2, j3, j4]; (repeat (show wpQuiet _ _ _ _ (_ :: _) _; go_big_quiet_step (fail))); refine qn ?_)
  go_wp2_with fail
  clear hw3 B3
  refine C4.mono ?_
  clear C4
  rintro e w4 ⟨rfl, hb4'⟩
  have hb4 : Below w2.heap.size w2 w4 := hb3.tr hb4'
  have HB4 := jh (HB2.out.1.tr hb4)
  clear hb4' hb3
  cases han : r.streams.any fun x => !r.range.has (hashS x.name)
  rotate_left
  ·have HE2 := jh (HE.out.trans (if_pos (.inr (.inl han))))
   clear han
   go_wp2_with fail
   (refine segw (D := On w2) (hb4) ?_; unfold wpMix; simp only [pick, j1, j2, j3, j4]; (repeat (show wpQuiet _ _ _ _ (_ :: _) _; go_big_quiet_step (fail))); refine qn ?_)
   go_wp2_with fail
   (refine segw (D := On w2) (hb4) ?_; unfold wpMix; simp only [pick, j1, j2, j3, j4]; (repeat (show wpQuiet _ _ _ _ (_ :: _) _; go_big_quiet_step (fail))); refine qn ?_)
   go_wp2_with fail
   (refine segw (D := On w2) (hb4) ?_; unfold wpMix; simp only [pick, j1, j2, j3, j4]; (repeat (show wpQuiet _ _ _ _ (_ :: _) _; go_big_quiet_step (fail))); refine qn ?_)
   clear z13 z14 z15 z16 z17 hlo hb4
   go_wp2_with fail
   go_ret
   unfold StOut
   rw [HE2.out]
   obtain ⟨v', a1, a2⟩ := HH.out.1
   exact ⟨rfl, ⟨v', a1.ext HB4.out, (a2.same (js HB4.out)).mono fun k hk => .inl hk⟩, jo HB4.out⟩
  ·have HAN := jh han
   clear han
   go_wp2_with fail
   (refine segw (D := On w2) (hb4) ?_; unfold wpMix; simp only [pick, j1, j2, j3, j4]; (repeat (show wpQuiet _ _ _ _ (_ :: _) _; go_big_quiet_step (fail))); refine qn ?_)
   go_wp2_with fail
   refine (tnew_any _).mono ?_
   rintro e w' ⟨rfl, rfl⟩
   have hb5 := hb4.al (.cells #[.map none] 252)
   unfold ptrV
   go_wp2_with fail
   (refine segw (D := On w2) (hb5) ?_; unfold wpMix; simp only [pick, j1, j2, j3, j4]; (repeat (show wpQuiet _ _ _ _ (_ :: _) _; go_big_quiet_step (fail))); refine qn ?_)
   have hz24 := hb4.size
   have hz2 := HB2.out.1.size
   have hwz : (w4.alloc (.cells #[.map none] 252)).heap.size = w4.heap.size + 1 := by simp
   have C6 := put_any w4.heap.size [] sA sc r.streams (fun k => k = w4.heap.size) (fun k => Q k ∧ k < w4.heap.size) (w4.alloc (.cells #[.map none] 252)) ⟨rfl, .inl ⟨Blk.new w4 252 [.map none], rfl⟩⟩
    ((HH.out.2.2.2.1.streams.2.2.mono fun k h h' => (⟨h, by have := HB4.out.size; omega⟩ : Q k ∧ k < w4.heap.size)).ext (HB4.out.al _)) (fun k h1 h2 => by omega) HH.out.2.2.2.2.2.1 (HH.out.2.2.2.2.2.2.below (HB4.out.al _)) (by omega)
   unfold PutOut ptrV at C6
   generalize hq : (putT r.streams []).2 = code at C6
   have HCD := jh hq
   clear hq hwz
   go_wp2_with fail
   refine C6.mono ?_
   clear C6
   rintro e w6 ⟨rfl, _, hO6⟩
   have hb6 : Below w2.heap.size w2 w6 := hb5.trans (hO6.low (fun k e => by have e' : k = w4.heap.size := e; omega) hb5.size)
   have HB6 := jh (ja (HB2.out.1.tr hb6) (HB2.out.2.ext hb6))
   clear hO6 hb5 hb4
   by_cases hcode : code = 0
   rotate_left
   ·have HE2 := jh (HE.out.trans (if_pos (.inr (.inr (by rw [HCD.out]; exact hcode)))))
    have hc1 : (code != 0) = true := bne_iff_ne.2 hcode
    have HB6' := jh HB6.out.1
    clear hcode
    go_wp2_with fail
    (refine segw (D := On w2) (hb6) ?_; unfold wpMix; simp only [pick, j1, j2, j3, j4]; (repeat (show wpQuiet _ _ _ _ (_ :: _) _; go_big_quiet_step (fail))); refine qn ?_)
    clear z13 z14 z15 z16 z17 hlo hb6
    go_wp2_with fail
    go_ret
    unfold StOut
    rw [HE2.out]
    obtain ⟨v', a1, a2⟩ := HH.out.1
    exact ⟨rfl, ⟨v', a1.ext HB6'.out, (a2.same (js HB6'.out)).mono fun k hk => .inl hk⟩, jo HB6'.out⟩
   ·have HE2 := jh (HE.out.trans (if_neg (by rw [HCD.out, HAN.out, HSB.out.2, hcode]; simp)))
    subst hcode
    go_wp2_with fail
    (refine segw (D := On w2) (hb6) ?_; unfold wpMix; simp only [pick, j1, j2, j3, j4]; (repeat (show wpQuiet _ _ _ _ (_ :: _) _; go_big_quiet_step (fail))); refine qn ?_)
    clear z13 z14 z15 z16 z17 hlo hb6
    go_upto_region 5 with fail
    obtain ⟨v, hB, hI⟩ := HH.out.1
    obtain ⟨Ar, cr, hv, hc1, hc2, hrow⟩ := hI.ring
    have hvl : v.ring = .slice Ar s.ring.length cr := by injection hv
    have y4 : w6.cell? ⟨g, 4, none⟩ = some v.ring := (hB.ext HB6.out.1).cell 4
    rw [hvl] at y4
    have y4 := On.cell y4
    have z13 := On.cell (HB6.out.2.cell 13 : w6.cell? ⟨w.heap.size, 13, none⟩ = some (.int .i64 r.range.first))
    have z14 := On.cell (HB6.out.2.cell 14 : w6.cell? ⟨w.heap.size, 14, none⟩ = some (.int .i64 r.range.last))
    have z15 := On.cell (HB6.out.2.cell 15 : w6.cell? ⟨w.heap.size, 15, none⟩ = some (.int .i64 r.range.owner))
    have z16 := On.cell (HB6.out.2.cell 16 : w6.cell? ⟨w.heap.size, 16, none⟩ = some (.int .i64 r.range.epoch))
    have hlo := jb w6.heap.size w6
    have CA := around_any Ar cr s.ring r.range P w6.drew (hrow.ext HB6.out.1.drew) (by omega) h0 HSB.out.1.1 HSB.out.1.2.1 HH.out.2.2.2.1.range
    unfold GotOwn at CA
    have HV := jh (ja hB hI)
    clear hB hI hv hc1 hc2 hrow hvl
    generalize hAR : aroundR s.ring r.range = ring' at CA HE2
    clear hAR
    refine wp_region_mix (.seg [0, 1, 2, 3, 4, 5] 6 (.leaf [7])) (fun w' => ∃ d : Wd (On w6), w' = d.w) (by kernel_rfl) (by kernel_rfl) (fun _ _ d _ _ h => by cases d <;> exact h) (ClsW.mk hlo.drew) ?_
    unfold wpMix; simp only [pick, j1, j2, j3, j4]
    (repeat (show wpQuiet _ _ _ _ (_ :: _) _; go_big_quiet_step (fail))); refine qn ?_
    go_wp2_with fail
    refine CA.mono ?_
    clear CA
    rintro e w7 ⟨⟨v7, rfl, ho7⟩, hb7'⟩
    have hb7 : Below w6.heap.size w6 w7 := hlo.drew.tr hb7'
    obtain ⟨A7, c7, hv7, hc71, hc72⟩ := ho7.form
    subst hv7
    have HO7 := jh (ja ho7 (ja hc71 hc72))
    have HB7 := jh (ja (HB6.out.1.tr hb7) (HB6.out.2.ext hb7))
    have HB7' := jh HB7.out.1
    clear ho7 hb7' hc71 hc72
    go_wp2_with fail
    (refine segw (D := On w6) (hb7) ?_; unfold wpMix; simp only [pick, j1, j2, j3, j4]; (repeat (show wpQuiet _ _ _ _ (_ :: _) _; go_big_quiet_step (fail))); refine qn ?_)
    clear y4 z13 z14 z15 z16 hlo hb7
    by_cases h64 : 64 < ring'.length
    ·have HE3 := jh (HE2.out.trans (if_pos h64))
     have h64' : (64 : Int) < ring'.length := by omega
     clear h64
     go_wp2_with fail
     go_ret
     unfold StOut
     rw [HE3.out]
     obtain ⟨v', a1, a2⟩ := HH.out.1
     exact ⟨rfl, ⟨v', a1.ext HB7'.out, (a2.same (js HB7'.out)).mono fun k hk => .inl hk⟩, jo HB7'.out⟩
    ·have HE3 := jh (HE2.out.trans (if_neg h64))
     have h64' : ¬ (64 : Int) < ring'.length := by omega
     have y4 : w7.cell? ⟨g, 4, none⟩ = some v.ring := (HV.out.1.ext HB7.out.1).cell 4
     have f4 := (HV.out.1.ext HB7.out.1).frozen 4
     clear h64
     go_upto_region 9 with fail
     have hI7 := HV.out.2.same (js HB7.out.1)
     have hO8 : Only (· = g) w7 (w7.setCell ⟨g, 4, none⟩ (.slice A7 ring'.length c7)) := Only.set_ (F := (· = g)) rfl _
     have hI8 := (hI7.same (Same.of_only hO8 fun k hk e => HH.out.2.1 (e ▸ hk))).mono (Q := fun k => P k ∨ w.heap.size ≤ k) fun k hk => .inl hk
     have hz7 := HB7.out.1.size
     have hst8 : StAt (w7.setCell ⟨g, 4, none⟩ (.slice A7 ring'.length c7)) (fun k => P k ∨ w.heap.size ≤ k) g { s with ring := ring' } := by
      refine ⟨{ v with ring := .slice A7 ring'.length c7 }, (HV.out.1.ext HB7.out.1).set_ 4 _, { hI8 with ring := ⟨A7, c7, rfl, HO7.out.2.1, HO7.out.2.2, ?_⟩ }⟩
      refine (HO7.out.1.row' range_plain (P := fun k => w.heap.size ≤ k ∧ k ≠ g) fun q hq => ?_).same (Same.of_only hO8 fun k hk e => hk.2 e) hO8.size |>.mono fun k hk _ => .inr hk.1
      have h1 := (HO7.out.1.lt q hq).1
      have h2 := HB6.out.1.size
      have h3 : w6.drew.heap.size = w6.heap.size := rfl
      omega
     have hBx8 := HB7.out.2.only hO8 (fun e => by have e' : w.heap.size = g := e; omega)
     have hT8 := (HH.out.2.2.2.2.2.2.below HB7.out.1).only hO8 (by intro e; have e' : 0 = g := e; omega) (by intro e; have e' : 1 = g := e; omega)
     have hz8 := hO8.size
     have hOw8 : Only (· = g) w _ := (jo HB7.out.1).tr hO8
     generalize hw8 : w7.setCell ⟨g, 4, none⟩ (.slice A7 ring'.length c7) = w8 at *
     have hst8 : StAt w8 (fun k => (P k ∨ w.heap.size ≤ k) ∧ k < w8.heap.size) g { s with ring := ring' } := by obtain ⟨v', a1, a2⟩ := hst8; exact ⟨v', a1, a2.low⟩
     have hnb := HB7.out.2.lt
     have CF := fresh_any g { s with ring := ring' } (fun k => (P k ∨ w.heap.size ≤ k) ∧ k < w8.heap.size) w8 hst8 (fun h => by rcases h.1 with h | h; exact HH.out.2.1 h; omega) HH.out.2.2.1.fair.len HH.out.2.2.1.fair.each HH.out.2.2.1.fair.put hT8 (by omega)
     unfold FreshOut ptrV at CF
     have H8 := jh (ja hst8 (ja hBx8 (ja hT8 hOw8)))
     clear hw8 hI7 hI8 hO8 hst8 hBx8 hT8 hOw8 y4 f4
     go_wp2_with fail
     refine CF.mono ?_
     clear CF
     rintro e w9 ⟨rfl, ⟨v9, hB9, hT9, hR9⟩, hO9, _⟩
     have hz9 := hO9.size
     have hBx9 := H8.out.2.1.only hO9 (fun e => by have e' : w.heap.size = g := e; omega)
     have hTb9 := H8.out.2.2.1.only hO9 (by intro e; have e' : 0 = g := e; omega) (by intro e; have e' : 1 = g := e; omega)
     have H9 := jh (ja hT9 (ja hR9 (ja (H8.out.2.2.2.tr hO9) hTb9)))
     have hD : InD g w.heap.size { s with ring := ring', table := freshT s.table } v9 r nA nc pA pc sA sc w9 := ⟨hB9, hBx9⟩
     clear hB9 hT9 hR9 hO9 hBx9 hTb9
     haveI : Nonempty (Wd (InD g w.heap.size { s with ring := ring', table := freshT s.table } v9 r nA nc pA pc sA sc)) := ⟨⟨_, hD⟩⟩
     have y5 := InD.c5 (g := g) (nb := w.heap.size) (s := { s with ring := ring', table := freshT s.table }) (v := v9) (r := r) (nA := nA) (nc := nc) (pA := pA) (pc := pc) (sA := sA) (sc := sc)
     have z13 := InD.r13 (g := g) (nb := w.heap.size) (s := { s with ring := ring', table := freshT s.table }) (v := v9) (r := r) (nA := nA) (nc := nc) (pA := pA) (pc := pc) (sA := sA) (sc := sc)
     have z14 := InD.r14 (g := g) (nb := w.heap.size) (s := { s with ring := ring', table := freshT s.table }) (v := v9) (r := r) (nA := nA) (nc := nc) (pA := pA) (pc := pc) (sA := sA) (sc := sc)
     have z15 := InD.r15 (g := g) (nb := w.heap.size) (s := { s with ring := ring', table := freshT s.table }) (v := v9) (r := r) (nA := nA) (nc := nc) (pA := pA) (pc := pc) (sA := sA) (sc := sc)
     have z16 := InD.r16 (g := g) (nb := w.heap.size) (s := { s with ring := ring', table := freshT s.table }) (v := v9) (r := r) (nA := nA) (nc := nc) (pA := pA) (pc := pc) (sA := sA) (sc := sc)
     have z17 := InD.r17 (g := g) (nb := w.heap.size) (s := { s with ring := ring', table := freshT s.table }) (v := v9) (r := r) (nA := nA) (nc := nc) (pA := pA) (pc := pc) (sA := sA) (sc := sc)
     go_upto_region 10 with fail
     refine wp_region_mix (.seg [0, 1, 2, 3, 4, 5] 6 (.leaf [])) (fun w' => ∃ d : Wd (InD g w.heap.size { s with ring := ring', table := freshT s.table } v9 r nA nc pA pc sA sc), w' = d.w) (by kernel_rfl) (by kernel_rfl) (fun _ _ d _ _ h => by cases d <;> exact h) (ClsW.mk (D := InD g w.heap.size { s with ring := ring', table := freshT s.table } v9 r nA nc pA pc sA sc) hD.drew) ?_
     unfold wpMix; simp only [pick, j1, j2, j3, j4]
     (repeat (show wpQuiet _ _ _ _ (_ :: _) _; go_big_quiet_step (fail))); refine qn ?_
     have CD := drop_any v9.tb (freshT s.table) r.range (fun k => w8.heap.size ≤ k ∧ k < w9.heap.size) w9.drew (H9.out.1.ext (jb _ _).drew) hfl
     unfold ptrV at CD
     go_wp2_with fail
     refine CD.mono ?_
     clear CD
     rintro e w10 ⟨⟨n10, rfl⟩, hT10, hO10⟩
     have hz10 := hO10.size
     have hzd : w9.drew.heap.size = w9.heap.size := rfl
     have hD10 := hD.drew.only hO10 (fun h => by have := h.1; omega) (fun h => by have := h.1; omega)
     go_wp2_with fail
     dsimp only [wpList, SegQ]
     refine ⟨fun w' => ∃ d : Wd (InD g w.heap.size { s with ring := ring', table := freshT s.table } v9 r nA nc pA pc sA sc), w' = d.w, ClsW.mk (D := InD g w.heap.size { s with ring := ring', table := freshT s.table } v9 r nA nc pA pc sA sc) hD10, fun _ h => h, ?_⟩
     unfold wpMix; simp only [pick, j2]
     (repeat (show wpQuiet _ _ _ _ (_ :: _) _; go_big_quiet_step (fail))); refine qn ?_
     go_upto_region 11 with fail
     refine wp_region_mix (.seg [0, 1, 2, 3, 4, 5] 6 (.leaf [7])) (fun w' => ∃ d : Wd (InD g w.heap.size { s with ring := ring', table := freshT s.table } v9 r nA nc pA pc sA sc), w' = d.w) (by kernel_rfl) (by kernel_rfl) (fun _ _ d _ _ h => by cases d <;> exact h) (ClsW.mk (D := InD g w.heap.size { s with ring := ring', table := freshT s.table } v9 r nA nc pA pc sA sc) hD10.drew) ?_
     unfold wpMix; simp only [pick, j1, j2, j3, j4]
     (repeat (show wpQuiet _ _ _ _ (_ :: _) _; go_big_quiet_step (fail))); refine qn ?_
     have hTb10 := (H9.out.2.2.2.below (jb _ w9).drew).only hO10 (fun h => by have := h.1; omega) (fun h => by have := h.1; omega)
     have hO9d : Only (fun k => w8.heap.size ≤ k ∧ k < w9.heap.size) w9 w10 := (jo (jb _ w9).drew).trans hO10 fun q hq h => h.1
     have hrw := ((HH.out.2.2.2.1.streams.2.2.mono fun k h h' => (⟨h, h'⟩ : Q k ∧ k < w.heap.size)).same (Same.of_only H9.out.2.2.1 fun k hk e => by have e' : k = g := e; exact HH.out.2.2.2.2.1 (e' ▸ hk.1)) H9.out.2.2.1.size).same (w' := w10) (Same.of_only hO9d fun k hk e => by have := e.1; have := hk.2; omega) hO9d.size
     have CP := put_any v9.tb (dropT (freshT s.table) r.range) sA sc r.streams (fun k => w8.heap.size ≤ k ∧ k < w9.heap.size) (fun k => Q k ∧ k < w.heap.size) w10.drew (hT10.ext (jb _ _).drew) (hrw.ext (jb _ _).drew) (fun k h1 h2 => by have := h1.2; have := h2.1; omega) HH.out.2.2.2.2.2.1 (hTb10.below (jb _ _).drew) (by have h1 : w10.drew.heap.size = w10.heap.size := rfl; omega)
     unfold PutOut ptrV at CP
     have H10 := jh (ja hO9d hrw)
     clear hT10 hO10 hTb10 hO9d hrw
     go_wp2_with fail
     refine CP.mono ?_
     clear CP
     rintro e w11 ⟨rfl, hT11, hO11⟩
     have hD11 := hD10.drew.only hO11 (fun h => by have := h.1; omega) (fun h => by have := h.1; omega)
     have H11 := jh (ja hT11 (ja hO11 hD11.st))
     have hz11 := hO11.size
     clear hT11 hO11
     generalize hcd : (putT r.streams (dropT (freshT s.table) r.range)).2 = code11 at *
     go_wp2_with fail
     dsimp only [wpList, SegQ]
     refine ⟨fun w' => ∃ d : Wd (InD g w.heap.size { s with ring := ring', table := freshT s.table } v9 r nA nc pA pc sA sc), w' = d.w, ClsW.mk (D := InD g w.heap.size { s with ring := ring', table := freshT s.table } v9 r nA nc pA pc sA sc) hD11, fun _ h => h, ?_⟩
     unfold wpMix; simp only [pick, j1, j2, j3, j4]
     (repeat (show wpQuiet _ _ _ _ (_ :: _) _; go_big_quiet_step (fail))); refine qn ?_
     clear y5 z13 z14 z15 z16 z17
     go_wp2_with fail
     go_ret
     unfold StOut
     rw [HE3.out]
     have hzd10 : w10.drew.heap.size = w10.heap.size := rfl
     have hO11' : Only (fun k => w8.heap.size ≤ k ∧ k < w9.heap.size) w9 w11 := H10.out.1.tr ((jo (jb _ w10).drew).tr H11.out.2.1)
     refine ⟨by first | rfl | rw [hcd], ⟨v9, H11.out.2.2, StRest.full (s := { s with ring := ring', table := (putT r.streams (dropT (freshT s.table) r.range)).1 }) ?_ (H11.out.1.mono fun k hk => ?_)⟩, ?_⟩
     ·have h1 := (H9.out.2.1.same (Same.of_only hO11' fun k hk e => by have := e.1; have := hk.2; omega)).mono (Q := fun k => P k ∨ w.heap.size ≤ k) fun k hk _ => hk.1
      exact ⟨h1.fit, h1.ring, h1.held, h1.outcomes, h1.decided, h1.frozen, h1.log⟩
     ·rcases hk with hk | hk
      ·exact .inr (by have := hk.1; omega)
      ·exact .inr (by omega)
     ·exact H9.out.2.2.1.trans hO11' fun q hq h => by have := h.1; omega
end Go.Proofs.YtcmjgghkmdbphaaGreatDoor
