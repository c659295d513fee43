/- state.around: a ring with a range laid in. table.Table.Drop. -/
import Derived.Test.YtpgocpodhamibaaGreatDoorR02
import Derived.Test.YtpgocpodhamibaaGreatDoorR01
import Derived.Test.YtpgocpodhamibaaGreatDoorRK08
import Derived.Test.YtpgocpodhamibaaGreatDoorRK06
namespace Go.Proofs.YtpgocpodhamibaaGreatDoor
open Go.RowKit

structure ArD (xb rb : Nat) (x r : Range) (W : World) : Prop where
  x : Blk W xb 40 [.int .i64 x.first, .int .i64 x.last, .int .i64 x.owner, .int .i64 x.epoch]
  r : Blk W rb 40 [.int .i64 r.first, .int .i64 r.last, .int .i64 r.owner, .int .i64 r.epoch]
section
variable {xb rb : Nat} {x r : Range}
theorem ArD.x0 (d : Wd (ArD xb rb x r)) : d.w.cell? ⟨xb, 0, none⟩ = some (.int .i64 x.first) := d.ok.x.cell 0
theorem ArD.x1 (d : Wd (ArD xb rb x r)) : d.w.cell? ⟨xb, 1, none⟩ = some (.int .i64 x.last) := d.ok.x.cell 1
theorem ArD.r0 (d : Wd (ArD xb rb x r)) : d.w.cell? ⟨rb, 0, none⟩ = some (.int .i64 r.first) := d.ok.r.cell 0
theorem ArD.r1 (d : Wd (ArD xb rb x r)) : d.w.cell? ⟨rb, 1, none⟩ = some (.int .i64 r.last) := d.ok.r.cell 1
end
structure ArS (ga gb xb rb base : Nat) (cl ch : List Value) (x r : Range) (w1 : World) (v : Value) (acc : List Range) (W : World) : Prop where
  own : RangeR.Own W base 40 (fun _ => True) v acc
  low : Blk W ga 40 cl
  high : Blk W gb 40 ch
  x : Blk W xb 40 [.int .i64 x.first, .int .i64 x.last, .int .i64 x.owner, .int .i64 x.epoch]
  r : Blk W rb 40 [.int .i64 r.first, .int .i64 r.last, .int .i64 r.owner, .int .i64 r.epoch]
  off : ∀ q, v.ownBlock = some q → q ≠ ga ∧ q ≠ gb ∧ q ≠ xb ∧ q ≠ rb
  below : Below base w1 W
theorem ArS.app {ga gb xb rb base : Nat} {cl ch : List Value} {x r d : Range} {w1 W W' : World} {v v' : Value} {acc : List Range} (h : ArS ga gb xb rb base cl ch x r w1 v acc W)
    (ho : RangeR.Own W' base 40 (fun _ => True) v' (acc ++ [d])) (hg : W.grownBy W' v.ownBlock) (hat : v'.ownBlock = v.ownBlock ∨ v'.ownBlock = some (W.heap.size + 1)) (hb : Below base W W') : ArS ga gb xb rb base cl ch x r w1 v' (acc ++ [d]) W' := by
  have h1 := h.low.lt
  have h2 := h.high.lt
  have h3 := h.x.lt
  have h4 := h.r.lt
  have hG := Only.grown hg (F := fun g => v.ownBlock = some g) (fun g hg => hg)
  refine ⟨ho, h.low.only hG (fun e => (h.off _ e).1 rfl), h.high.only hG (fun e => (h.off _ e).2.1 rfl), h.x.only hG (fun e => (h.off _ e).2.2.1 rfl), h.r.only hG (fun e => (h.off _ e).2.2.2 rfl), fun q hq => ?_, h.below.trans hb⟩
  rcases hat with e | e
  · exact h.off q (e ▸ hq)
  · have e2 : q = W.heap.size + 1 := by rw [e] at hq; exact (Option.some.inj hq).symm
    omega
theorem around_snoc {l : List Range} {r x : Range} {lo hi : Int} (h1 : lo = min x.last (r.first - 1)) (h2 : hi = max x.first (r.last + 1)) :
    aroundR (l ++ [x]) r = aroundR l r ++ (if x.first ≤ lo then [(⟨x.first, lo, x.owner, x.epoch⟩ : Range)] else []) ++ (if x.first ≤ r.first ∧ r.first ≤ x.last then [r] else []) ++ (if hi ≤ x.last then [(⟨hi, x.last, x.owner, x.epoch⟩ : Range)] else []) := by
  subst h1 h2
  unfold aroundR aroundX
  rw [List.flatMap_append, List.flatMap_cons, List.flatMap_nil, List.append_nil, List.append_assoc, List.append_assoc]
theorem aroundX_len (r x : Range) : (aroundX r x).length ≤ 3 := by
  unfold aroundX
  simp only [List.length_append]
  (repeat' split) <;> simp
theorem around_len (l : List Range) (r : Range) : (aroundR l r).length ≤ 3 * l.length := by
  unfold aroundR
  induction l with
  | nil => simp
  | cons x l ih =>
    rw [List.flatMap_cons, List.length_append, List.length_cons]
    have := aroundX_len r x
    omega
set_option maxRecDepth 20000 in
set_option maxHeartbeats 6400000 in
theorem around_any (A : Option Addr) (c : Nat) (l : List Range) (r : Range) (P : Nat → Prop) (w : World) (hr : RangeR.Row w P A l) (hl : l.length ≤ 1000) (h0 : 0 ≤ r.first) (h1 : r.first ≤ r.last) (h2 : r.last ≤ 4294967295) (hf : r.fit) :
    Calls Tryz.prog 164 #[.slice A l.length c, .agg #[.int .i64 r.first, .int .i64 r.last, .int .i64 r.owner, .int .i64 r.epoch]] w fun e w' => GotOwn RangeR w.heap.size 40 (fun _ => False) (aroundR l r) e w' ∧ Below w.heap.size w w' := by
  have HR := Lib.hid (hr.mono (Q := fun g => g < w.heap.size) fun g _ h => h)
  have hb0 := (Below.refl w.heap.size w).al (.cells #[.int .i64 r.first, .int .i64 r.last, .int .i64 r.owner, .int .i64 r.epoch] 40)
  have B0 := Blk.new w 40 [.int .i64 r.first, .int .i64 r.last, .int .i64 r.owner, .int .i64 r.epoch]
  have HF := Lib.hid hf
  clear hr hf
  go_enter Tryz.func164, Tryz.ntmps164
  go_upto_region 1 with fail
  have hs1 : (w.alloc (.cells #[.int .i64 r.first, .int .i64 r.last, .int .i64 r.owner, .int .i64 r.epoch] 40)).heap.size = w.heap.size + 1 := by simp
  generalize hw1 : (w.alloc (.cells #[.int .i64 r.first, .int .i64 r.last, .int .i64 r.owner, .int .i64 r.epoch] 40)) = w1 at *
  clear hw1
  have HB := Lib.hid (And.intro hb0 (And.intro B0 hs1))
  clear hb0 B0 hs1
  go_wp2_with fail
  go_loopw [4, 11] (fun ov i wr => ∃ k : Nat, k ≤ l.length ∧ i = .int .i64 k ∧ RangeR.Own wr w1.heap.size 40 (fun _ => True) ov (aroundR (l.take k) r) ∧ Below w1.heap.size w1 wr) (fun _ i _ => l.length - (intOf i).toNat)
  case atStart => exact ⟨0, Nat.zero_le _, rfl, by rw [List.take_zero]; exact Rep.Own.nil_, Below.refl _ _⟩
  case round =>
    obtain ⟨k, hk, rfl, hown, hbl⟩ := hrel
    by_cases hlt : k < l.length
    · have hlk := List.getElem?_eq_getElem hlt
      have hts := take_snoc l k hlt
      obtain ⟨bb, o, cs, rfl, hP, hbw, hrep, hcs⟩ := (HR.out.ext (HB.out.1.tr hbl)).at_ hlk
      generalize l[k] = x at *
      obtain ⟨rfl, hfx⟩ := range_rep.1 hrep
      have c0 := hcs 0 _ rfl; have c1 := hcs 1 _ rfl; have c2 := hcs 2 _ rfl; have c3 := hcs 3 _ rfl; simp only [RangeR_size, Nat.add_zero] at c0 c1 c2 c3
      have HTS := Lib.hid (And.intro hts hfx)
      have hlt' : (k : Int) < l.length := by omega
      have hbx := (Below.refl wr.heap.size wr).al (.cells #[.int .i64 x.first, .int .i64 x.last, .int .i64 x.owner, .int .i64 x.epoch] 40)
      have BX := Blk.new wr 40 [.int .i64 x.first, .int .i64 x.last, .int .i64 x.owner, .int .i64 x.epoch]
      clear hlk hts hrep hcs hfx
      go_upto_region 4 with fail
      have hsx : (wr.alloc (.cells #[.int .i64 x.first, .int .i64 x.last, .int .i64 x.owner, .int .i64 x.epoch] 40)).heap.size = wr.heap.size + 1 := by simp
      generalize hw2 : (wr.alloc (.cells #[.int .i64 x.first, .int .i64 x.last, .int .i64 x.owner, .int .i64 x.epoch] 40)) = w2 at *
      have HO := Lib.hid (And.intro (hown.ext hbx) (And.intro hown (And.intro (hbl.tr hbx) (And.intro BX (And.intro (HB.out.2.1.ext (hbl.tr hbx)) hsx)))))
      have y0 := On.cell (BX.cell 0 : w2.cell? ⟨wr.heap.size, 0, none⟩ = some (.int .i64 x.first))
      have y1 := On.cell (BX.cell 1 : w2.cell? ⟨wr.heap.size, 1, none⟩ = some (.int .i64 x.last))
      have y2 := On.cell (BX.cell 2 : w2.cell? ⟨wr.heap.size, 2, none⟩ = some (.int .i64 x.owner))
      have y3 := On.cell (BX.cell 3 : w2.cell? ⟨wr.heap.size, 3, none⟩ = some (.int .i64 x.epoch))
      obtain ⟨Ao, co, rfl, _⟩ := hown.form
      have hlo := Below.refl w2.heap.size w2
      have HZR := Lib.hid (show w1.heap.size ≤ wr.heap.size from hbl.size)
      clear hw2 hbx BX hsx hown hbl c0 c1 c2 c3
      go_cut [7, 8] (fun av bv wx => ∃ ga gb : Nat, av = .pointer (some ⟨ga, 0, none⟩) ∧ bv = .pointer (some ⟨gb, 0, none⟩) ∧ Blk wx ga 40 x.cells ∧ Blk wx gb 40 x.cells ∧ ga ≠ gb ∧ w2.heap.size ≤ ga ∧ w2.heap.size ≤ gb ∧ Below w2.heap.size w2 wx)
      case first =>
        refine wp_region_mix (.fork [0, 1] 2 (.seg [] 3 (.seg [] 4 (.seg [] 5 (.leaf [])))) 3 (.seg [] 2 (.seg [] 4 (.seg [] 5 (.leaf []))))) (fun w' => ∃ d : Wd (On w2), w' = d.w) (by kernel_rfl) (by kernel_rfl) (fun _ _ d _ _ h => by cases d <;> exact h) (ClsW.mk hlo.drew) ?_
        unfold wpMix; simp only [pick, p1, p2, p3, p4]
        (repeat (show wpQuiet _ _ _ _ (_ :: _) _; go_big_quiet_step (fail))); refine qn ?_
        constructor
        · go_wp2_with fail
          have hba := (Below.refl w2.heap.size w2).al (.cells #[.int .i64 0, .int .i64 0, .int .i64 0, .int .i64 0] 40)
          (dsimp only [wpList, SegQ]; refine ⟨fun w' => ∃ d : Wd (On w2), w' = d.w, ClsW.mk (hba.drew), fun _ h => h, ?_⟩; unfold wpMix; simp only [pick, p1, p2, p3, p4]; (repeat (show wpQuiet _ _ _ _ (_ :: _) _; go_big_quiet_step (fail))); refine qn ?_)
          go_wp2_with fail
          have hbb := (hba.al (.cells #[.int .i64 0, .int .i64 0, .int .i64 0, .int .i64 0] 40)).drew
          (dsimp only [wpList, SegQ]; refine ⟨fun w' => ∃ d : Wd (On w2), w' = d.w, ClsW.mk (hbb), fun _ h => h, ?_⟩; unfold wpMix; simp only [pick, p1, p2, p3, p4]; (repeat (show wpQuiet _ _ _ _ (_ :: _) _; go_big_quiet_step (fail))); refine qn ?_)
          refine wpList_store_blk (cs := x.cells) rfl rfl rfl rfl rfl (((Blk.new w2 40 [.int .i64 0, .int .i64 0, .int .i64 0, .int .i64 0]).alloc (.cells #[.int .i64 0, .int .i64 0, .int .i64 0, .int .i64 0] 40)).ext (Below.refl _ _).drew) (by kernel_rfl) rfl (by simp [Range.cells, Value.oneCell']) ?_
          intro w4 hB4 hO4 hz4
          have hN4 := ((Blk.new1 w2 (.cells #[.int .i64 0, .int .i64 0, .int .i64 0, .int .i64 0] 40) 40 [.int .i64 0, .int .i64 0, .int .i64 0, .int .i64 0]).ext (Below.refl _ _).drew).only hO4 (by simp)
          have hb4 := hbb.trans (hO4.low (fun k e => by have e' : k = w2.heap.size := e; omega) hbb.size)
          (dsimp only [wpList, SegQ]; refine ⟨fun w' => ∃ d : Wd (On w2), w' = d.w, ClsW.mk (hb4), fun _ h => h, ?_⟩; unfold wpMix; simp only [pick, p1, p2, p3, p4]; (repeat (show wpQuiet _ _ _ _ (_ :: _) _; go_big_quiet_step (fail))); refine qn ?_)
          refine wpList_store_blk (cs := x.cells) rfl rfl rfl rfl rfl hN4 (by kernel_rfl) rfl (by simp [Range.cells, Value.oneCell']) ?_
          intro w5 hB5 hO5 hz5
          have hA5 := hB4.only hO5 (by simp)
          have hb5 := hb4.trans (hO5.low (fun k e => by have e' : k = _ := e; rw [e']; simp) hb4.size)
          (dsimp only [wpList, SegQ]; refine ⟨fun w' => ∃ d : Wd (On w2), w' = d.w, ClsW.mk (hb5), fun _ h => h, ?_⟩; unfold wpMix; simp only [pick, p2]; (repeat (show wpQuiet _ _ _ _ (_ :: _) _; go_big_quiet_step (fail))); refine qn ?_)
          have HZ := Lib.hid (And.intro hA5 (And.intro hB5 hb5))
          go_wp2_with fail
          go_meet
          exact ⟨_, _, rfl, rfl, HZ.out.1, HZ.out.2.1, by simp, Nat.le_refl _, by simp, HZ.out.2.2⟩
        · go_wp2_with fail
          have hba := (Below.refl w2.heap.size w2).al (.cells #[.int .i64 0, .int .i64 0, .int .i64 0, .int .i64 0] 40)
          (dsimp only [wpList, SegQ]; refine ⟨fun w' => ∃ d : Wd (On w2), w' = d.w, ClsW.mk (hba.drew), fun _ h => h, ?_⟩; unfold wpMix; simp only [pick, p1, p2, p3, p4]; (repeat (show wpQuiet _ _ _ _ (_ :: _) _; go_big_quiet_step (fail))); refine qn ?_)
          go_wp2_with fail
          have hbb := (hba.al (.cells #[.int .i64 0, .int .i64 0, .int .i64 0, .int .i64 0] 40)).drew
          (dsimp only [wpList, SegQ]; refine ⟨fun w' => ∃ d : Wd (On w2), w' = d.w, ClsW.mk (hbb), fun _ h => h, ?_⟩; unfold wpMix; simp only [pick, p1, p2, p3, p4]; (repeat (show wpQuiet _ _ _ _ (_ :: _) _; go_big_quiet_step (fail))); refine qn ?_)
          refine wpList_store_blk (cs := x.cells) rfl rfl rfl rfl rfl ((Blk.new1 w2 (.cells #[.int .i64 0, .int .i64 0, .int .i64 0, .int .i64 0] 40) 40 [.int .i64 0, .int .i64 0, .int .i64 0, .int .i64 0]).ext (Below.refl _ _).drew) (by kernel_rfl) rfl (by simp [Range.cells, Value.oneCell']) ?_
          intro w4 hB4 hO4 hz4
          have hN4 := (((Blk.new w2 40 [.int .i64 0, .int .i64 0, .int .i64 0, .int .i64 0]).alloc (.cells #[.int .i64 0, .int .i64 0, .int .i64 0, .int .i64 0] 40)).ext (Below.refl _ _).drew).only hO4 (by simp)
          have hb4 := hbb.trans (hO4.low (fun k e => by have e' : k = _ := e; rw [e']; simp) hbb.size)
          (dsimp only [wpList, SegQ]; refine ⟨fun w' => ∃ d : Wd (On w2), w' = d.w, ClsW.mk (hb4), fun _ h => h, ?_⟩; unfold wpMix; simp only [pick, p1, p2, p3, p4]; (repeat (show wpQuiet _ _ _ _ (_ :: _) _; go_big_quiet_step (fail))); refine qn ?_)
          refine wpList_store_blk (cs := x.cells) rfl rfl rfl rfl rfl hN4 (by kernel_rfl) rfl (by simp [Range.cells, Value.oneCell']) ?_
          intro w5 hB5 hO5 hz5
          have hA5 := hB4.only hO5 (by simp)
          have hb5 := hb4.trans (hO5.low (fun k e => by have e' : k = w2.heap.size := e; omega) hb4.size)
          (dsimp only [wpList, SegQ]; refine ⟨fun w' => ∃ d : Wd (On w2), w' = d.w, ClsW.mk (hb5), fun _ h => h, ?_⟩; unfold wpMix; simp only [pick, p2]; (repeat (show wpQuiet _ _ _ _ (_ :: _) _; go_big_quiet_step (fail))); refine qn ?_)
          have HZ := Lib.hid (And.intro hA5 (And.intro hB5 hb5))
          go_wp2_with fail
          go_meet
          exact ⟨_, _, rfl, rfl, HZ.out.1, HZ.out.2.1, by simp, by simp, Nat.le_refl _, HZ.out.2.2⟩
      case rest =>
        clear y0 y1 y2 y3 hlo
        obtain ⟨ga, gb, rfl, rfl, hA, hB, hne, hga, hgb, hbc⟩ := hcut
        have hzx := HO.out.2.2.2.2.2
        have hD : ArD wr.heap.size w.heap.size x r wc := ⟨HO.out.2.2.2.1.ext hbc, HO.out.2.2.2.2.1.ext hbc⟩
        haveI : Nonempty (Wd (ArD wr.heap.size w.heap.size x r)) := ⟨⟨_, hD⟩⟩
        have y0 := ArD.x0 (xb := wr.heap.size) (rb := w.heap.size) (x := x) (r := r)
        have y1 := ArD.x1 (xb := wr.heap.size) (rb := w.heap.size) (x := x) (r := r)
        have z0 := ArD.r0 (xb := wr.heap.size) (rb := w.heap.size) (x := x) (r := r)
        have z1 := ArD.r1 (xb := wr.heap.size) (rb := w.heap.size) (x := x) (r := r)
        go_upto_region 5 with fail
        refine wp_region_mix (.seg [0, 1, 2, 3, 4, 5, 6, 7, 8, 9, 10, 11, 12] 13 (.seg [14] 15 (.leaf []))) (fun w' => ∃ d : Wd (ArD wr.heap.size w.heap.size x r), w' = d.w) (by kernel_rfl) (by kernel_rfl) (fun _ _ d _ _ h => by cases d <;> exact h) (ClsW.mk (D := ArD wr.heap.size w.heap.size x r) ⟨hD.x.drew, hD.r.drew⟩) ?_
        unfold wpMix; simp only [pick, p1, p2, p3, p4]
        (repeat (show wpQuiet _ _ _ _ (_ :: _) _; go_big_quiet_step (fail))); refine qn ?_
        have hA' := hA.drew
        have hB' := hB.drew
        have hO2 := HO.out
        obtain ⟨lo, hlo⟩ : ∃ q, q = min x.last (r.first - 1) := ⟨_, rfl⟩
        obtain ⟨hi, hhi⟩ : ∃ q, q = max x.first (r.last + 1) := ⟨_, rfl⟩
        rw [← hlo, ← hhi]
        have ca : wc.drew.cell? ⟨ga, 1, none⟩ = some (.int .i64 x.last) := hA'.cell 1
        have fa := hA'.frozen 1
        have HLH := Lib.hid (And.intro hlo hhi)
        clear hlo hhi
        have hrx : w.heap.size ≠ wr.heap.size := by have := HB.out.2.2; have := HZR.out; omega
        have hzx := HO.out.2.2.2.2.2
        have n1 : wr.heap.size ≠ ga := by omega
        have n2 : w.heap.size ≠ ga := by have := HB.out.2.1.lt; have := HO.out.2.2.1.size; omega
        have n3 : wr.heap.size ≠ gb := by omega
        have n4 : w.heap.size ≠ gb := by have := HB.out.2.1.lt; have := HO.out.2.2.1.size; omega
        go_wp2_with fail
        have hD2 : ArD wr.heap.size w.heap.size x r ((wc.setCell ⟨ga, 1, none⟩ (.int .i64 lo)).drew) := ⟨(hD.x.only (Only.set_ (F := (· = ga)) rfl _) n1).drew, (hD.r.only (Only.set_ (F := (· = ga)) rfl _) n2).drew⟩
        dsimp only [wpList, SegQ]
        refine ⟨fun w' => ∃ d : Wd (ArD wr.heap.size w.heap.size x r), w' = d.w, ClsW.mk (D := ArD wr.heap.size w.heap.size x r) hD2, fun _ h => h, ?_⟩
        unfold wpMix; simp only [pick, p1, p2, p3, p4]
        (repeat (show wpQuiet _ _ _ _ (_ :: _) _; go_big_quiet_step (fail))); refine qn ?_
        have hB2 := (hB.only (Only.set_ (F := (· = ga)) (p := ⟨ga, 1, none⟩) rfl (.int .i64 lo)) (fun e => hne e.symm)).drew
        have cb : ((wc.setCell ⟨ga, 1, none⟩ (.int .i64 lo)).drew).cell? ⟨gb, 0, none⟩ = some (.int .i64 x.first) := hB2.cell 0
        have fb := hB2.frozen 0
        clear ca fa
        go_wp2_with fail
        have hD3 : ArD wr.heap.size w.heap.size x r (((wc.setCell ⟨ga, 1, none⟩ (.int .i64 lo)).setCell ⟨gb, 0, none⟩ (.int .i64 hi)).drew) := ⟨((hD.x.only (Only.set_ (F := (· = ga)) (p := ⟨ga, 1, none⟩) rfl (.int .i64 lo)) n1).only (Only.set_ (F := (· = gb)) rfl _) n3).drew, ((hD.r.only (Only.set_ (F := (· = ga)) (p := ⟨ga, 1, none⟩) rfl (.int .i64 lo)) n2).only (Only.set_ (F := (· = gb)) rfl _) n4).drew⟩
        dsimp only [wpList, SegQ]
        refine ⟨fun w' => ∃ d : Wd (ArD wr.heap.size w.heap.size x r), w' = d.w, ClsW.mk (D := ArD wr.heap.size w.heap.size x r) hD3, fun _ h => h, ?_⟩
        unfold wpMix; simp only [pick, p2]
        (repeat (show wpQuiet _ _ _ _ (_ :: _) _; go_big_quiet_step (fail))); refine qn ?_
        have hA3 := ((hA.set_ 1 (.int .i64 lo)).only (Only.set_ (F := (· = gb)) (p := ⟨gb, 0, none⟩) rfl (.int .i64 hi)) hne).drew
        have hB3 := ((hB.only (Only.set_ (F := (· = ga)) (p := ⟨ga, 1, none⟩) rfl (.int .i64 lo)) (fun e => hne e.symm)).set_ 0 (.int .i64 hi)).drew
        have hb3 := ((hbc.st (p := ⟨ga, 1, none⟩) hga (.int .i64 lo)).st (p := ⟨gb, 0, none⟩) hgb (.int .i64 hi)).drew
        have hS3 : ArS ga gb wr.heap.size w.heap.size w1.heap.size [.int .i64 x.first, .int .i64 lo, .int .i64 x.owner, .int .i64 x.epoch] [.int .i64 hi, .int .i64 x.last, .int .i64 x.owner, .int .i64 x.epoch] x r w1 (.slice Ao (aroundR (l.take k) r).length co) (aroundR (l.take k) r) (((wc.setCell ⟨ga, 1, none⟩ (.int .i64 lo)).setCell ⟨gb, 0, none⟩ (.int .i64 hi)).drew) :=
          ⟨HO.out.1.ext hb3, hA3, hB3, hD3.x, hD3.r, fun q hq => by
            have h1 := (HO.out.2.1.lt q hq)
            have h2 := HB.out.2.1.lt
            refine ⟨?_, ?_, ?_, ?_⟩ <;> omega, HO.out.2.2.1.tr hb3⟩
        generalize hw7 : ((wc.setCell ⟨ga, 1, none⟩ (.int .i64 lo)).setCell ⟨gb, 0, none⟩ (.int .i64 hi)).drew = w7 at *
        have HS := Lib.hid hS3
        clear hw7 hA3 hB3 hb3 hD3 hD2 hD hB2 cb fb hA' hB' hO2 y0 y1 z0 z1 hA hB hbc
        have c0 : w7.cell? ⟨ga, 0, none⟩ = some (.int .i64 x.first) := hS3.low.cell 0
        have c1 : w7.cell? ⟨ga, 1, none⟩ = some (.int .i64 lo) := hS3.low.cell 1
        clear hS3
        go_upto_if 35 with fail
        have hal : (aroundR (l.take k) r).length ≤ 3000 := by
          have h1 := around_len (l.take k) r
          rw [List.length_take] at h1
          omega
        have hfx := HTS.out.2
        have hfr := HF.out
        have hlo64 : i64 lo := by
          rw [HLH.out.1]
          have h1 := hfx.2.1
          have h2 := hfr.1
          unfold i64 at *
          omega
        have hhi64 : i64 hi := by
          rw [HLH.out.2]
          have h1 := hfx.1
          unfold i64 at *
          omega
        have FL : Range.fit ⟨x.first, lo, x.owner, x.epoch⟩ := ⟨hfx.1, hlo64, hfx.2.2.1, hfx.2.2.2⟩
        have FH : Range.fit ⟨hi, x.last, x.owner, x.epoch⟩ := ⟨hhi64, hfx.2.1, hfx.2.2.1, hfx.2.2.2⟩
        obtain ⟨i0, e1, e2, e3, e4⟩ := info_parts range_info
        go_cut [4] (fun ov wx => ArS ga gb wr.heap.size w.heap.size w1.heap.size [.int .i64 x.first, .int .i64 lo, .int .i64 x.owner, .int .i64 x.epoch] [.int .i64 hi, .int .i64 x.last, .int .i64 x.owner, .int .i64 x.epoch] x r w1 ov (aroundR (l.take k) r ++ (if x.first ≤ lo then [(⟨x.first, lo, x.owner, x.epoch⟩ : Range)] else [])) wx)
        case first =>
          by_cases ht : x.first ≤ lo
          · have c2 : w7.cell? ⟨ga, 2, none⟩ = some (.int .i64 x.owner) := HS.out.low.cell 2
            have c3 : w7.cell? ⟨ga, 3, none⟩ = some (.int .i64 x.epoch) := HS.out.low.cell 3
            have HT := Lib.hid ht
            go_wp2_with (first
              | (at_builtin; refine wpList_append_new (R := RangeR) w7 rfl (.tmp 36) (.tmp 38) _ rfl w1.heap.size 40 i0 _ 32 Tryz.underlying51 e1 e2 e3 e4 rfl _ (aroundR (l.take k) r) (fun _ => True) rfl HS.out.own (fun _ _ => trivial) rfl (fun _ => False) _ (range_rep.2 ⟨rfl, FL⟩) (fun _ h => h.elim) (by unfold maxLen; omega) (by omega) HS.out.below.size ?_; intro v8 w8 ho hg hat hn hb)
              | fail)
            have HM := Lib.hid (HS.out.app ho hg hat hb)
            clear ho hg hat hn hb
            go_wp2_with fail
            go_meet
            rw [if_pos HT.out]; exact HM.out
          · have HT := Lib.hid ht
            go_wp2_with fail
            go_meet
            rw [if_neg (by have := HT.out; omega), List.append_nil]; exact HS.out
        case rest =>
          clear c0 c1 HS
          have HS := Lib.hid hcut
          obtain ⟨Aq, cq, rfl, _⟩ := hcut.own.form
          have hal2 : (aroundR (l.take k) r ++ (if x.first ≤ lo then [(⟨x.first, lo, x.owner, x.epoch⟩ : Range)] else [])).length ≤ 3001 := by rw [List.length_append]; split <;> simp <;> omega
          have r0 : wc.cell? ⟨w.heap.size, 0, none⟩ = some (.int .i64 r.first) := hcut.r.cell 0
          have x0 : wc.cell? ⟨wr.heap.size, 0, none⟩ = some (.int .i64 x.first) := hcut.x.cell 0
          have x1 : wc.cell? ⟨wr.heap.size, 1, none⟩ = some (.int .i64 x.last) := hcut.x.cell 1
          clear hcut
          have HACC := Lib.hid (around_snoc (l := l.take k) HLH.out.1 HLH.out.2)
          rw [← HTS.out.1] at HACC
          generalize aroundR (l.take k) r ++ (if x.first ≤ lo then [(⟨x.first, lo, x.owner, x.epoch⟩ : Range)] else []) = acc1 at *
          by_cases hq : x.first ≤ r.first
          all_goals
            have HQ := Lib.hid hq
            go_upto_if 51 with fail
            go_cut [4] (fun ov wx => ArS ga gb wr.heap.size w.heap.size w1.heap.size [.int .i64 x.first, .int .i64 lo, .int .i64 x.owner, .int .i64 x.epoch] [.int .i64 hi, .int .i64 x.last, .int .i64 x.owner, .int .i64 x.epoch] x r w1 ov (acc1 ++ (if x.first ≤ r.first ∧ r.first ≤ x.last then [r] else [])) wx)
            case first =>
              clear hq
              by_cases hq : x.first ≤ r.first
              · by_cases ht : r.first ≤ x.last
                · have r1 : wc.cell? ⟨w.heap.size, 1, none⟩ = some (.int .i64 r.last) := HS.out.r.cell 1
                  have r2 : wc.cell? ⟨w.heap.size, 2, none⟩ = some (.int .i64 r.owner) := HS.out.r.cell 2
                  have r3 : wc.cell? ⟨w.heap.size, 3, none⟩ = some (.int .i64 r.epoch) := HS.out.r.cell 3
                  have HT := Lib.hid (And.intro hq ht)
                  first
                    | exact absurd hq HQ.out
                    | (go_wp2_with (first
                         | (at_builtin; refine wpList_append_new (R := RangeR) wc rfl (.tmp 52) (.tmp 54) _ rfl w1.heap.size 40 i0 _ 32 Tryz.underlying51 e1 e2 e3 e4 rfl _ acc1 (fun _ => True) rfl HS.out.own (fun _ _ => trivial) rfl (fun _ => False) _ (range_rep.2 ⟨rfl, hfr⟩) (fun _ h => h.elim) (by unfold maxLen; omega) (by omega) HS.out.below.size ?_; intro v8 w8 ho hg hat hn hb)
                         | fail)
                       have HM := Lib.hid (HS.out.app ho hg hat hb)
                       clear ho hg hat hn hb
                       go_wp2_with fail
                       go_meet
                       rw [if_pos HT.out]; exact HM.out)
                · have HT := Lib.hid (show ¬ (x.first ≤ r.first ∧ r.first ≤ x.last) from fun h => ht h.2)
                  first
                    | exact absurd hq HQ.out
                    | (go_wp2_with fail
                       go_meet
                       rw [if_neg (by have := HT.out; omega), List.append_nil]; exact HS.out)
              · first
                  | exact absurd HQ.out hq
                  | (have HT := Lib.hid (show ¬ (x.first ≤ r.first ∧ r.first ≤ x.last) from fun h => hq h.1)
                     go_wp2_with fail
                     go_meet
                     rw [if_neg (by have := HT.out; omega), List.append_nil]; exact HS.out)
            case rest =>
              clear r0 x0 x1 HS
              have HS := Lib.hid hcut
              obtain ⟨Ap, cp, rfl, _⟩ := hcut.own.form
              have hal3 : (acc1 ++ (if x.first ≤ r.first ∧ r.first ≤ x.last then [r] else [])).length ≤ 3002 := by rw [List.length_append]; split <;> simp <;> omega
              have h0' : wc.cell? ⟨gb, 0, none⟩ = some (.int .i64 hi) := hcut.high.cell 0
              have h1' : wc.cell? ⟨gb, 1, none⟩ = some (.int .i64 x.last) := hcut.high.cell 1
              have HGO := Lib.hid (show ∀ z, z = (if hi ≤ x.last then [(⟨hi, x.last, x.owner, x.epoch⟩ : Range)] else []) → aroundR (l.take (k + 1)) r = (acc1 ++ (if x.first ≤ r.first ∧ r.first ≤ x.last then [r] else [])) ++ z from fun z hz => by rw [hz]; exact HACC.out)
              clear hcut hq
              generalize acc1 ++ (if x.first ≤ r.first ∧ r.first ≤ x.last then [r] else []) = acc2 at *
              by_cases ht : hi ≤ x.last
              · have HT := Lib.hid ht
                have h2' : wc.cell? ⟨gb, 2, none⟩ = some (.int .i64 x.owner) := HS.out.high.cell 2
                have h3' : wc.cell? ⟨gb, 3, none⟩ = some (.int .i64 x.epoch) := HS.out.high.cell 3
                go_wp2_with (first
                  | (at_builtin; refine wpList_append_new (R := RangeR) wc rfl (.tmp 61) (.tmp 63) _ rfl w1.heap.size 40 i0 _ 32 Tryz.underlying51 e1 e2 e3 e4 rfl _ acc2 (fun _ => True) rfl HS.out.own (fun _ _ => trivial) rfl (fun _ => False) _ (range_rep.2 ⟨rfl, FH⟩) (fun _ h => h.elim) (by unfold maxLen; omega) (by omega) HS.out.below.size ?_; intro v8 w8 ho hg hat hn hb)
                  | fail)
                have HM := Lib.hid (HS.out.app ho hg hat hb)
                clear ho hg hat hn hb h0' h1' h2' h3'
                go_wp2_with fail
                go_round
                case rel => exact ⟨k + 1, by omega, by go_num, by rw [HGO.out _ rfl, if_pos HT.out]; exact HM.out.own, HM.out.below⟩
                case measure => (simp [intOf]; omega)
              · have HT := Lib.hid ht
                go_wp2_with fail
                go_round
                case rel => exact ⟨k + 1, by omega, by go_num, by rw [HGO.out _ rfl, if_neg (by have := HT.out; omega), List.append_nil]; exact HS.out.own, HS.out.below⟩
                case measure => (simp [intOf]; omega)
    · have hkn : k = l.length := by omega
      subst hkn
      rw [List.take_length] at hown
      have HO := Lib.hid (And.intro hown (HB.out.1.tr hbl))
      obtain ⟨Ao, co, rfl, _⟩ := hown.form
      clear hown hbl
      go_wp2_with fail
      go_ret
      exact ⟨⟨_, rfl, (HO.out.1.plain range_plain).base' (by have := HB.out.2.2; omega)⟩, HO.out.2⟩
end Go.Proofs.YtpgocpodhamibaaGreatDoor
namespace Go.Proofs.YtpgocpodhamibaaGreatDoor
open Go.RowKit

theorem Blk.not_map {w : World} {b m : Nat} {t : TypeId} {cs : List Value} {ps : List (Str × Value)} (h : Blk w b t cs) (hM : MapAt strE w m ps) : b ≠ m := by
  intro e
  subst e
  obtain ⟨es, c, he, _⟩ := hM
  unfold Blk at h
  rw [h] at he
  cases he
theorem StrsAt.del {w w' : World} {P : Nat → Prop} {m : Nat} {TA : TabA} {n : Str} (h : StrsAt w P m TA) (hb : Only (· = m) w w') (hM : MapAt strE w' m (assocDel n TA.ptrs)) : StrsAt w' P m (delA n TA) := by
  refine ⟨?_, delA_nodup h.nd, fun p hp => ?_, h.apart.sublist (delA_sub n TA)⟩
  · rw [assocDel_eq] at hM
    have e : TabA.ptrs (delA n TA) = delA n TA.ptrs := by unfold TabA.ptrs; rw [← delA_map (fun q : TS × SB => ptrV q.2.b)]
    rw [e]; exact hM
  · have hq := h.each p ((delA_sub n TA).subset hp)
    have hnm := hq.1.not_map h.map
    exact ⟨hq.1.same (P := fun g => g ≠ m) ⟨fun e => hnm.1 e.symm, hq.2.1, fun g hg e => hnm.2 (e ▸ hg)⟩ (Same.of_only hb fun k hk e => hk e), hq.2⟩
theorem tab_del (n : Str) (TA : TabA) : TabA.tab (delA n TA) = delA n TA.tab := by unfold TabA.tab; rw [← delA_map (fun q : TS × SB => q.1)]
set_option maxRecDepth 20000 in
set_option maxHeartbeats 1600000 in
theorem drop_any (tb : Nat) (T : Tab) (r : Range) (P : Nat → Prop) (w : World) (h : TabAt w P tb T) (hl : T.length ≤ 40000) :
    Calls Tryz.prog 166 #[ptrV tb, .agg #[.int .i64 r.first, .int .i64 r.last, .int .i64 r.owner, .int .i64 r.epoch]] w fun e w' => (∃ n : Int, e = .returned (.int .i64 n)) ∧ TabAt w' P tb (dropT T r) ∧ Only (fun q => P q ∧ q < w.heap.size) w w' := by
  have hb0 := (Below.refl w.heap.size w).al (.cells #[.int .i64 r.first, .int .i64 r.last, .int .i64 r.owner, .int .i64 r.epoch] 40)
  have C := some_any tb T r P (w.alloc (.cells #[.int .i64 r.first, .int .i64 r.last, .int .i64 r.owner, .int .i64 r.epoch] 40)) (h.ext hb0) (by omega)
  have HT := Lib.hid h
  have hln : (someT T r).length ≤ 40000 := by
    have h1 : (someT T r).length ≤ (sortS (T.map (·.1))).length := List.length_filter_le _ _
    rw [sortS_len, List.length_map] at h1
    omega
  unfold ptrV Range.val at C
  unfold ptrV
  have HD := Lib.hid (show dropT T r = (someT T r).foldl (fun T n => delA n T) T from rfl)
  have hnil : T = [] → someT T r = [] := fun e => by
    have h1 : (someT T r).length ≤ (sortS (T.map (·.1))).length := List.length_filter_le _ _
    rw [sortS_len, List.length_map, e] at h1
    exact List.eq_nil_of_length_eq_zero (by simpa [e] using h1)
  clear h
  go_enter Tryz.func166, Tryz.ntmps166
  go_wp2_with fail
  refine C.mono ?_
  clear C
  rintro e w1 ⟨⟨v, rfl, ho⟩, hb1⟩
  have hw1 := hb0.tr hb1
  have hz1 := hw1.size
  obtain ⟨A, c, rfl, _⟩ := ho.form
  have hz0 : (w.alloc (.cells #[.int .i64 r.first, .int .i64 r.last, .int .i64 r.owner, .int .i64 r.epoch] 40)).heap.size = w.heap.size + 1 := by simp
  have HN := Lib.hid (And.intro (ho.row' (P := fun q => w.heap.size ≤ q) str_plain (fun q hq => by have := (ho.lt q hq).1; omega)) hw1)
  have hT1 := HT.out.ext hw1
  have HNIL := Lib.hid hnil
  generalize someT T r = names at *
  have hnl : ((names.length : Nat) : Int) ≤ 40000 := by omega
  clear ho hb0 hb1 hw1 hz0 hnil
  obtain ⟨hPt, ⟨hB, h0⟩ | ⟨m, TA, hB, hPm, hS, hTe⟩⟩ := hT1
  · have hn0 := HNIL.out h0
    subst hn0
    have HX := Lib.hid (And.intro hB h0)
    clear hB h0
    simp only [List.length_nil]
    go_wp2_with fail
    go_loopw [13] (fun i wr => i = .int .i64 0 ∧ wr = w1) (fun _ _ => 0)
    case atStart => exact ⟨rfl, rfl⟩
    case round =>
      obtain ⟨rfl, rfl⟩ := hrel
      go_wp2_with fail
      go_ret
      exact ⟨⟨_, rfl⟩, ⟨hPt, .inl ⟨HX.out.1, by rw [HD.out]; exact HX.out.2⟩⟩, Only.of_below HN.out.2⟩
  · have hml := hS.map.lt
    have htl := hB.lt
    have H0 := Lib.hid (And.intro hB (And.intro hS (And.intro hTe hPm)))
    have hmw : m < w.heap.size := by
      obtain ⟨_, ⟨hB', _⟩ | ⟨m', TA', hB', _, hS', _⟩⟩ := HT.out
      · have e1 := (hB'.ext HN.out.2).eq_ hB
        have e2 := e1.1
        injection e2 with e2 _
        injection e2 with e2
        cases e2
      · have e1 := (hB'.ext HN.out.2).eq_ hB
        have e2 := e1.1
        injection e2 with e2 _
        injection e2 with e2
        injection e2 with e2
        subst e2
        exact hS'.map.lt
    clear hB hS hTe hPm
    go_wp2_with fail
    go_loopw [13] (fun i wr => ∃ (k : Nat) (TA' : TabA), k ≤ names.length ∧ i = .int .i64 k ∧ StrsAt wr P m TA' ∧ TA'.tab = (names.take k).foldl (fun T n => delA n T) T ∧ Only (· = m) w1 wr) (fun i _ => names.length - (intOf i).toNat)
    case atStart => exact ⟨0, TA, Nat.zero_le _, rfl, H0.out.2.1, by rw [List.take_zero]; exact H0.out.2.2.1.symm, Only.refl _ _⟩
    case round =>
      obtain ⟨k, TA', hk, rfl, hS, hTe, hO⟩ := hrel
      have hBr := H0.out.1.only hO (H0.out.1.not_map H0.out.2.1.map)
      have HTE := Lib.hid (And.intro hTe hO)
      clear hTe
      by_cases hlt : k < names.length
      · have hlk := List.getElem?_eq_getElem hlt
        have hts := take_snoc names k hlt
        obtain ⟨bb, o, cs, rfl, _, _, ⟨rfl, _⟩, hcs⟩ := (HN.out.1.same (w' := wr) (Same.of_only hO fun q hq e => by have e' : q = m := e; omega) hO.size).at_ hlk
        generalize names[k] = n at *
        have c0 := hcs 0 _ rfl; simp only [StrR_size, Nat.add_zero, Nat.mul_one] at c0
        have HTS := Lib.hid hts
        have y0 : wr.cell? ⟨tb, 0, none⟩ = some (.map (some m)) := hBr.cell 0
        have hlt' : (k : Int) < names.length := by omega
        have hM := hS.map
        have HS := Lib.hid hS
        clear hlk hts hcs hBr hO hS
        go_wp2_with (first
          | (at_delete; refine wpList_delete_map strKey rfl (.tmp 20) (.tmp 21) 215 rfl Tryz.underlying215 rfl hM n rfl ?_; intro w4 hM4 hO4)
          | fail)
        have hS4 := HS.out.del hO4 hM4
        have HS4 := Lib.hid (And.intro hS4 (HTE.out.2.tr hO4))
        clear hM hM4 hO4 hS4
        go_wp2_with fail
        go_round
        case rel => exact ⟨k + 1, delA n TA', by omega, by go_num, HS4.out.1, by rw [tab_del, HTE.out.1, HTS.out, List.foldl_append]; rfl, HS4.out.2⟩
        case measure => simp [intOf]; omega
      · have hkn : k = names.length := by omega
        subst hkn
        have HB := Lib.hid (And.intro hBr hS)
        clear hBr hS hO
        go_wp2_with fail
        go_ret
        refine ⟨⟨_, rfl⟩, ⟨hPt, .inr ⟨m, TA', HB.out.1, H0.out.2.2.2, HB.out.2, ?_⟩⟩, ?_⟩
        · have h1 := HTE.out.1
          rw [List.take_length] at h1
          rw [HD.out, h1]
        · exact (Only.of_below HN.out.2).trans HTE.out.2 fun q hq e => by have e' : q = m := e; subst e'; exact ⟨H0.out.2.2.2, hq⟩
end Go.Proofs.YtpgocpodhamibaaGreatDoor
