/- event.EncodeEvent, where the event may be. event.known, event.EncodeStream: a stream as bytes. event.EncodeStream: a stream as bytes. -/
import Derived.Test.YtcmjgghkmdbphaaGreatDoorG05
set_option maxRecDepth 20000
set_option maxHeartbeats 25600000
namespace Go.Proofs.YtcmjgghkmdbphaaGreatDoor
open Go.RowKit
def lenE0 (e : Event) : Nat := (vlen e.stream.size + e.stream.size) + vlen e.version + (vlen e.data.size + e.data.size)
def lenE (e : Event) : Nat := lenE0 e + lenT e.stamp + vlen e.index
theorem lenE_bd {e : Event} (h : eventB e = true) : 1 ≤ lenE e ∧ lenE e ≤ 1300 ∧ e.data.size ≤ lenE e := by
 have h1 := eventB_iff.1 h
 have h2 := nameB_short h1.1
 have b1 := vlen_bd e.stream.size
 have b2 := vlen_bd e.version
 have b3 := vlen_bd e.data.size
 have b4 := lenT_bd e.stamp
 have b5 := vlen_bd e.index
 unfold lenE lenE0; omega
theorem encodeE_good (e : Event) (w : World) (hf : e.fit) (hT : Tabs w) (_h2 : 2 ≤ w.heap.size) (hgg : eventB e = true) :
 Calls Tryz.prog 232 #[e.val] w fun en w' => GotEnc (eventB e) w.heap.size (lenE e) (lenE e) en w' ∧ Below w.heap.size w w' := by
 obtain ⟨hf1, hf2, hf3, hf4, hf5⟩ := hf
 have CN := nameF e.stream (w.alloc (.cells e.cells.toArray 202)) hf1 (hT.below ((jb _ _).al _))
 have CV := fun W (h : Below w.heap.size w W) => valid_any e.data W hf3 (hT.below h)
 have CS := fun W => sound_any e.stamp W
 have CE := fun W => encode_ex e.stamp W
 have HF5 := jh hf5
 have HF2 := jh hf2
 clear hf4 hf5 hf2 hf1
 unfold Event.val
 unfold Stamp.val at CS CE
 unfold Event.cells at CN
 have g : nameB e.stream = true ∧ ¬ e.version < 1 ∧ ¬ 1099511627776 < e.version ∧ ¬ (1000 : Int) < e.data.size ∧ validB e.data = true ∧ soundB e.stamp = true ∧ ¬ e.index < 0 ∧ ¬ 160 < e.index := by
  have h := eventB_iff.1 hgg
  exact ⟨h.1, by omega, by omega, by omega, h.2.2.2.2.1, h.2.2.2.2.2.1, by omega, by omega⟩
 clear hgg
 have FX : ∀ W, Below w.heap.size w W → Below (w.heap.size + 1) (w.alloc (.cells #[.string e.stream, .int .i64 e.version, .string e.data, .int .i64 e.stamp.wall, .int .i64 e.stamp.logic, .int .i64 e.stamp.node, .int .i64 e.index] 202)) W →
  W.cell? ⟨w.heap.size, 0, none⟩ = some (.string e.stream) ∧ W.cell? ⟨w.heap.size, 1, none⟩ = some (.int .i64 e.version) ∧ W.cell? ⟨w.heap.size, 2, none⟩ = some (.string e.data) ∧ W.cell? ⟨w.heap.size, 3, none⟩ = some (.int .i64 e.stamp.wall) ∧ W.cell? ⟨w.heap.size, 4, none⟩ = some (.int .i64 e.stamp.logic) ∧ W.cell? ⟨w.heap.size, 5, none⟩ = some (.int .i64 e.stamp.node) ∧ W.cell? ⟨w.heap.size, 6, none⟩ = some (.int .i64 e.index) := fun W _ h => by
  have B := (Blk.new w 202 e.cells)
  have K : ∀ (i : Nat) (v : Value), (w.alloc (.cells e.cells.toArray 202)).cell? ⟨w.heap.size, i, none⟩ = some v → W.cell? ⟨w.heap.size, i, none⟩ = some v := fun i v hv => (Below.cell h (p := ⟨w.heap.size, i, none⟩) (Nat.lt_succ_self _)).trans hv
  exact ⟨K 0 _ (B.cell 0), K 1 _ (B.cell 1), K 2 _ (B.cell 2), K 3 _ (B.cell 3), K 4 _ (B.cell 4), K 5 _ (B.cell 5), K 6 _ (B.cell 6)⟩
 have hcut0 : ∀ W, Below (w.alloc (.cells #[.string e.stream, .int .i64 e.version, .string e.data, .int .i64 e.stamp.wall, .int .i64 e.stamp.logic, .int .i64 e.stamp.node, .int .i64 e.index] 202)).heap.size (w.alloc (.cells #[.string e.stream, .int .i64 e.version, .string e.data, .int .i64 e.stamp.wall, .int .i64 e.stamp.logic, .int .i64 e.stamp.node, .int .i64 e.index] 202)) W →
  Below w.heap.size w W ∧ Below (w.heap.size + 1) (w.alloc (.cells #[.string e.stream, .int .i64 e.version, .string e.data, .int .i64 e.stamp.wall, .int .i64 e.stamp.logic, .int .i64 e.stamp.node, .int .i64 e.index] 202)) W := fun W h => ⟨((jb _ _).al _).tr h, h.mono (by simp)⟩
 have HFX := jh FX
 have HCUT := jh hcut0
 clear FX hcut0
 have gn : nameB e.stream = true := g.1
 (have g1 : decide (e.version < 1) = false := jd (by have := g.2; omega))
 (have g2 : decide (1099511627776 < e.version) = false := jd (by have := g.2; omega))
 (have g3 : decide ((1000 : Int) < e.data.size) = false := jd (by have := g.2; omega))
 have gv : validB e.data = true := g.2.2.2.2.1
 have gs : soundB e.stamp = true := g.2.2.2.2.2.1
 (have g7 : decide (e.index < 0) = false := jd (by have := g.2; omega))
 (have g8 : decide (160 < e.index) = false := jd (by have := g.2; omega))
 have HG := jh g
 clear g
 go_enter Tryz.func232, Tryz.ntmps232
 go_wp2_with fail
 refine CN.mono ?_
 clear CN
 rintro en w1 ⟨rfl, hb1⟩
 rw [gn]
 obtain ⟨hw1, hx1⟩ := HCUT.out w1 hb1
 have hz1 := hb1.size
 simp only [World.size_alloc] at hz1
 clear hb1
 obtain ⟨y0, y1, y2, y3, y4, y5, y6⟩ := HFX.out w1 hw1 hx1
 go_wp2_with fail
 refine (CV w1 hw1).mono ?_
 clear CV y0 y1 y2 y3 y4 y5 y6
 rintro en w2 ⟨rfl, hb2⟩
 rw [gv]
 have hw2 := hw1.tr hb2
 have hx2 := hx1.trans (hb2.mono hz1)
 have hz2 := hb2.size
 clear hb2
 obtain ⟨y0, y1, y2, y3, y4, y5, y6⟩ := HFX.out w2 hw2 hx2
 go_wp2_with fail
 refine (CS w2).mono ?_
 clear CS y0 y1 y2 y3 y4 y5 y6
 rintro en w3 ⟨rfl, hb3⟩
 rw [gs]
 have hw3 := hw2.tr hb3
 have hx3 := hx2.trans (hb3.mono (by omega))
 have hz3 := hb3.size
 clear hb3
 obtain ⟨y0, y1, y2, y3, y4, y5, y6⟩ := HFX.out w3 hw3 hx3
 go_wp2_with fail
 have HGD : Hid (eventB e = true ∧ e.stream.size ≤ 160 ∧ e.data.size ≤ 1000) := jh ⟨eventB_iff.2 ⟨gn, by have := HG.out.2; omega, by have := HG.out.2; omega, by have := HG.out.2; omega, gv, gs, by have := HG.out.2; omega, by have := HG.out.2; omega⟩, nameB_short gn, by have := HG.out.2; omega⟩
 have HS := jh gs
 have HV : Hid (1 ≤ e.version ∧ e.version ≤ 1099511627776 ∧ 0 ≤ e.index ∧ e.index ≤ 160) := jh (by have := HG.out.2; omega)
 clear HG gn gv gs g1 g2 g3 g7 g8
 have x0 := OnB.cell (B := w.heap.size + 1) (W := w3) (by omega) y0
 have x1 := OnB.cell (B := w.heap.size + 1) (W := w3) (by omega) y1
 have x2 := OnB.cell (B := w.heap.size + 1) (W := w3) (by omega) y2
 have hdr : w3.drew.heap.size = w3.heap.size := rfl
 clear y0 y1 y2 y3 y4 y5 y6
 have hz : w.heap.size + 1 ≤ w3.heap.size := by omega
 have hvr := HV.out
 have HBV := jh (ja (vlen_bd e.stream.size) (ja (vlen_bd e.version) (ja (vlen_bd e.data.size) (ja (lenT_bd e.stamp) (vlen_bd e.index)))))
 go_cut [3] from 46 to 56 (fun v wx => ∃ n, Bts wx (w.heap.size + 1) v n ∧ 1 ≤ n ∧ n ≤ 1200 ∧ Below (w.heap.size + 1) w3 wx ∧ Hid (n = lenE0 e))
 case first =>
  refine wp_region_mix (.fork [0, 1, 3, 4, 5, 8, 9] 2 (.seg [] 6 (.seg [] 7 (.seg [] 10 (.leaf [11])))) 6 (.seg [] 2 (.seg [] 7 (.seg [] 10 (.leaf [11]))))) (fun w' => ∃ d : Wd (OnB (w.heap.size + 1) w3), w' = d.w) (by kernel_rfl) (by kernel_rfl) (fun _ _ d _ _ h => by cases d <;> exact h) (ClsW.mk (jb _ _).drew) ?_
  unfold wpMix; simp only [pick, j1, j2, j3, j4]
  (repeat (show wpQuiet _ _ _ _ (_ :: _) _; go_big_quiet_step (fail))); refine qn ?_
  constructor
  ·go_wp2_with fail
   refine (text_ex _ 0 0 e.stream _ (Bts.nil_ _ _) (by have := HGD.out; have := HBV.out; omega)).mono ?_
   rintro en wa ⟨⟨v2, n2, rfl, hv2, hn2, hn2'⟩, hb2'⟩
   have hb2 : Below w3.heap.size w3 wa := (jb _ w3).drew.tr hb2'
   clear hb2'
   go_wp2_with fail
   (refine segw (D := OnB (w.heap.size + 1) w3) (hb2.mono (by omega)) ?_; unfold wpMix; simp only [pick, j1, j2, j3, j4]; (repeat (show wpQuiet _ _ _ _ (_ :: _) _; go_big_quiet_step (fail))); refine qn ?_; go_wp2_with fail)
   (refine segw (D := OnB (w.heap.size + 1) w3) ((hb2.mono (by omega)).alloc (by have := hb2.size; omega) _) ?_; unfold wpMix; simp only [pick, j1, j2, j3, j4]; (repeat (show wpQuiet _ _ _ _ (_ :: _) _; go_big_quiet_step (fail))); refine qn ?_; go_wp2_with fail)
   have hne : some wa.heap.size ≠ v2.ownBlock := fun h => by have := (hv2.lt _ h.symm).2; omega
   have hnums := (nums1_ex v2 n2 (w.heap.size + 1) wa.heap.size 303 e.version _ ((hv2.base_ hz).ext ((jb _ _).al _)) (Blk.new wa _ _) ⟨by omega, by simp only [limV]; omega⟩ (by have := HGD.out; have := HBV.out; omega) (by have := hb2.size; simp; omega) hne)
   refine hnums.mono ?_
   clear hnums
   rintro en wb ⟨⟨v3, n3, rfl, hv3, hn3, hn3', _⟩, ho3⟩
   have hb3 : Below (w.heap.size + 1) w3 wb := ((hb2.mono hz).alloc (by have := hb2.size; omega) _).trans (ho3.low (fun g hg => by have := (hv2.lt g hg).1; omega) (by have := hb2.size; simp; omega))
   go_wp2_with fail
   (refine segw (D := OnB (w.heap.size + 1) w3) (hb3) ?_; unfold wpMix; simp only [pick, j1, j2, j3, j4]; (repeat (show wpQuiet _ _ _ _ (_ :: _) _; go_big_quiet_step (fail))); refine qn ?_; go_wp2_with fail)
   refine (text_ex v3 n3 (w.heap.size + 1) e.data wb hv3 (by have := HGD.out; have := HBV.out; omega)).mono ?_
   rintro en wd ⟨⟨v4, n4, rfl, hv4, hn4, hn4'⟩, hb4⟩
   have hz3 := hb3.size
   go_wp2_with fail
   (refine segw (D := OnB (w.heap.size + 1) w3) (hb3.trans (hb4.mono (by omega))) ?_; unfold wpMix; simp only [pick, j1, j2, j3, j4]; (repeat (show wpQuiet _ _ _ _ (_ :: _) _; go_big_quiet_step (fail))); refine qn ?_; go_wp2_with fail)
   go_meet
   have := HBV.out
   exact ⟨n4, hv4.base_ (by omega), by omega, by have := HGD.out; omega, hb3.trans (hb4.mono (by omega)), jh (by unfold lenE0; omega)⟩
  ·go_wp2_with fail
   (refine segw (D := OnB (w.heap.size + 1) w3) ((jb _ w3).drew.alloc (by omega) _) ?_; unfold wpMix; simp only [pick, j1, j2, j3, j4]; (repeat (show wpQuiet _ _ _ _ (_ :: _) _; go_big_quiet_step (fail))); refine qn ?_; go_wp2_with fail)
   refine (text_ex _ 0 0 e.stream _ (Bts.nil_ _ _) (by have := HGD.out; have := HBV.out; omega)).mono ?_
   rintro en wa ⟨⟨v2, n2, rfl, hv2, hn2, hn2'⟩, hb2'⟩
   have hb2 := (jb (w.heap.size + 1) w3).drew.trans (((jb _ w3.drew).alloc (by omega) _).trans (hb2'.mono (by simp; omega)))
   have hg2 := (Blk.new w3.drew 303 [.int .u64 e.version]).ext hb2'
   have hz2 := hb2'.size
   have hlt2 := hv2.lt
   have hsz : ((w3.alloc (.cells #[.int .u64 e.version] 303)).drew).heap.size = w3.heap.size + 1 := by show (w3.alloc _).heap.size = _; simp
   clear hb2'
   go_wp2_with fail
   (refine segw (D := OnB (w.heap.size + 1) w3) (hb2) ?_; unfold wpMix; simp only [pick, j1, j2, j3, j4]; (repeat (show wpQuiet _ _ _ _ (_ :: _) _; go_big_quiet_step (fail))); refine qn ?_; go_wp2_with fail)
   have hne : some w3.heap.size ≠ v2.ownBlock := fun h => by have := (hlt2 _ h.symm).1; omega
   have hnums := (nums1_ex v2 n2 (w.heap.size + 1) w3.heap.size 303 e.version wa (hv2.base_ (by simp; omega)) hg2 ⟨by omega, by simp only [limV]; omega⟩ (by have := HGD.out; have := HBV.out; omega) (by omega) hne)
   refine hnums.mono ?_
   clear hnums
   rintro en wb ⟨⟨v3, n3, rfl, hv3, hn3, hn3', _⟩, ho3⟩
   have hb3 : Below (w.heap.size + 1) w3 wb := hb2.trans (ho3.low (fun g hg => by have := (hlt2 g hg).1; omega) (by omega))
   go_wp2_with fail
   (refine segw (D := OnB (w.heap.size + 1) w3) (hb3) ?_; unfold wpMix; simp only [pick, j1, j2, j3, j4]; (repeat (show wpQuiet _ _ _ _ (_ :: _) _; go_big_quiet_step (fail))); refine qn ?_; go_wp2_with fail)
   refine (text_ex v3 n3 (w.heap.size + 1) e.data wb hv3 (by have := HGD.out; have := HBV.out; omega)).mono ?_
   rintro en wd ⟨⟨v4, n4, rfl, hv4, hn4, hn4'⟩, hb4⟩
   have hz3 := hb3.size
   go_wp2_with fail
   (refine segw (D := OnB (w.heap.size + 1) w3) (hb3.trans (hb4.mono (by omega))) ?_; unfold wpMix; simp only [pick, j1, j2, j3, j4]; (repeat (show wpQuiet _ _ _ _ (_ :: _) _; go_big_quiet_step (fail))); refine qn ?_; go_wp2_with fail)
   go_meet
   have := HBV.out
   exact ⟨n4, hv4.base_ (by omega), by omega, by have := HGD.out; omega, hb3.trans (hb4.mono (by omega)), jh (by unfold lenE0; omega)⟩
 case rest =>
  obtain ⟨n0, hv0, hn0, hn0', hbc, HN0⟩ := hcut
  have hzc := hbc.size
  obtain ⟨y0, y1, y2, y3, y4, y5, y6⟩ := HFX.out wc (hw3.trans (hbc.mono (by omega))) (hx3.trans hbc)
  clear x0 x1 x2 y0 y1 y2
  have x3 := OnB.cell (B := w.heap.size + 1) (W := wc) (by omega) y3
  have x4 := OnB.cell (B := w.heap.size + 1) (W := wc) (by omega) y4
  have x5 := OnB.cell (B := w.heap.size + 1) (W := wc) (by omega) y5
  have x6 := OnB.cell (B := w.heap.size + 1) (W := wc) (by omega) y6
  clear y3 y4 y5 y6
  have hdc : wc.drew.heap.size = wc.heap.size := rfl
  have hlt0 := hv0.lt
  go_wp2_with fail
  refine wp_region_mix (.fork [0, 1, 2, 5, 6, 7] 3 (.fork [] 4 (.seg [] 8 (.seg [] 9 (.leaf [10]))) 8 (.seg [] 4 (.seg [] 9 (.leaf [10])))) 8 (.seg [] 3 (.seg [] 4 (.seg [] 9 (.leaf [10]))))) (fun w' => ∃ d : Wd (OnB (w.heap.size + 1) wc), w' = d.w) (by kernel_rfl) (by kernel_rfl) (fun _ _ d _ _ h => by cases d <;> exact h) (ClsW.mk (jb _ _).drew) ?_
  unfold wpMix; simp only [pick, j1, j2, j3, j4]
  (repeat (show wpQuiet _ _ _ _ (_ :: _) _; go_big_quiet_step (fail))); refine qn ?_
  constructor
  ·go_wp2_with fail
   refine (CE wc.drew).mono ?_
   rintro en wa ⟨hr, hb'⟩
   rw [HS.out] at hr
   obtain ⟨v2, n2, rfl, hv2, hn2, hn2'⟩ := hr.out1
   have hn3 : n2 ≤ 30 := by have := HBV.out; omega
   have hb : Below wc.heap.size wc wa := (jb _ wc).drew.tr hb'
   have hza := hb.size
   have hva := hv0.ext hb
   clear hb' hr
   go_wp2_with fail
   dsimp only [wpList, SegQ]
   refine ⟨fun w' => ∃ d : Wd (OnB (w.heap.size + 1) wc), w' = d.w, ClsW.mk (hb.mono (by omega)), fun _ h => h, ?_⟩
   unfold wpMix; simp only [pick, j1, j2, j3, j4]
   (repeat (show wpQuiet _ _ _ _ (_ :: _) _; go_big_quiet_step (fail))); refine qn ?_
   constructor
   ·refine wpList_append_bts rfl (.tmp 57) (.tmp 60) rfl (w.heap.size + 1) wc.heap.size _ n0 rfl hva v2 n2 rfl hv2 (by omega) (fun g hg h => by have := (hlt0 g h.symm).2; omega) (by omega) (by omega) ?_
    intro v3 wb hv3 hb3 _ hat3
    have hzb := hb3.size
    have hb4 := (hb.mono (B' := w.heap.size + 1) (by omega)).trans hb3
    (refine segw (D := OnB (w.heap.size + 1) wc) (hb4) ?_; unfold wpMix; simp only [pick, j1, j2, j3, j4]; (repeat (show wpQuiet _ _ _ _ (_ :: _) _; go_big_quiet_step (fail))); refine qn ?_; go_wp2_with fail)
    have HB4 := hb4.alloc (by omega) (.cells #[.int .u64 e.index] 303)
    (refine segw (D := OnB (w.heap.size + 1) wc) (HB4) ?_; unfold wpMix; simp only [pick, j1, j2, j3, j4]; (repeat (show wpQuiet _ _ _ _ (_ :: _) _; go_big_quiet_step (fail))); refine qn ?_; go_wp2_with fail)
    have hz4 : (wb.alloc (.cells #[.int .u64 e.index] 303)).heap.size = wb.heap.size + 1 := by simp
    have hne : some wb.heap.size ≠ v3.ownBlock := fun h => by have := (hv3.lt _ h.symm).2; omega
    have hnums := (nums1_ex v3 (n0 + n2) (w.heap.size + 1) wb.heap.size 303 e.index _ (hv3.ext ((jb _ _).al _)) (Blk.new wb _ _) ⟨by omega, by simp only [limV]; omega⟩ (by omega) (by omega) hne)
    refine hnums.mono ?_
    clear hnums
    rintro en wd ⟨⟨v5, n5, rfl, hv5, hn5, hn5', _⟩, ho5⟩
    have hb5 : Below (w.heap.size + 1) wc wd := HB4.trans (ho5.low (fun g hg => (hv3.lt g hg).1) (by omega))
    go_wp2_with fail
    (refine segw (D := OnB (w.heap.size + 1) wc) (hb5) ?_; unfold wpMix; simp only [pick, j1, j2, j3, j4]; (repeat (show wpQuiet _ _ _ _ (_ :: _) _; go_big_quiet_step (fail))); refine qn ?_; go_wp2_with fail)
    go_ret
    refine ⟨?_, hw3.trans ((hbc.trans hb5).mono (by omega))⟩
    rw [HGD.out.1]
    have := HN0.out
    have q : lenE e = lenE0 e + lenT e.stamp + vlen e.index := rfl
    exact GotEnc.yes ⟨_, n5, rfl, hv5.base_ (by omega), by omega, by omega⟩
   ·go_wp2_with fail
    have hba := (hb.mono (B' := w.heap.size + 1) (by omega)).alloc (by omega) (.cells #[.int .u64 e.index] 303)
    (refine segw (D := OnB (w.heap.size + 1) wc) (hba) ?_; unfold wpMix; simp only [pick, j1, j2, j3, j4]; (repeat (show wpQuiet _ _ _ _ (_ :: _) _; go_big_quiet_step (fail))); refine qn ?_)
    have hza' : (wa.alloc (.cells #[.int .u64 e.index] 303)).heap.size = wa.heap.size + 1 := by simp
    have hgb := Blk.new wa 303 [.int .u64 e.index]
    refine wpList_append_bts rfl (.tmp 57) (.tmp 60) rfl (w.heap.size + 1) wc.heap.size _ n0 rfl (hva.ext ((jb _ _).al _)) v2 n2 rfl (hv2.ext ((jb _ _).al _)) (by omega) (fun g hg h => by have := (hlt0 g h.symm).2; omega) (by omega) (by omega) ?_
    intro v3 wb hv3 hb3 hg3 hat3
    have HB4 := hba.trans hb3
    have hzb := hb3.size
    have hgb' := hgb.only (Only.grown hg3 (F := fun g => g ≠ wa.heap.size) (fun g hg e => by have := (hlt0 g hg).2; omega)) (fun h => h rfl)
    have hne : some wa.heap.size ≠ v3.ownBlock := fun h => by
     rcases hat3 with h' | h'
     ·have := (hlt0 _ (h'.symm.trans h.symm)).2; omega
     ·rw [h'] at h; injection h with h; omega
    (refine segw (D := OnB (w.heap.size + 1) wc) (HB4) ?_; unfold wpMix; simp only [pick, j1, j2, j3, j4]; (repeat (show wpQuiet _ _ _ _ (_ :: _) _; go_big_quiet_step (fail))); refine qn ?_; go_wp2_with fail)
    have hnums := (nums1_ex v3 (n0 + n2) (w.heap.size + 1) wa.heap.size 303 e.index wb hv3 hgb' ⟨by omega, by simp only [limV]; omega⟩ (by omega) (by omega) hne)
    refine hnums.mono ?_
    clear hnums
    rintro en wd ⟨⟨v5, n5, rfl, hv5, hn5, hn5', _⟩, ho5⟩
    have hb5 : Below (w.heap.size + 1) wc wd := HB4.trans (ho5.low (fun g hg => (hv3.lt g hg).1) (by omega))
    go_wp2_with fail
    (refine segw (D := OnB (w.heap.size + 1) wc) (hb5) ?_; unfold wpMix; simp only [pick, j1, j2, j3, j4]; (repeat (show wpQuiet _ _ _ _ (_ :: _) _; go_big_quiet_step (fail))); refine qn ?_; go_wp2_with fail)
    go_ret
    refine ⟨?_, hw3.trans ((hbc.trans hb5).mono (by omega))⟩
    rw [HGD.out.1]
    have := HN0.out
    have q : lenE e = lenE0 e + lenT e.stamp + vlen e.index := rfl
    exact GotEnc.yes ⟨_, n5, rfl, hv5.base_ (by omega), by omega, by omega⟩
  ·go_wp2_with fail
   have hsz : ((wc.alloc (.cells #[.int .u64 e.index] 303)).drew).heap.size = wc.heap.size + 1 := by show (wc.alloc _).heap.size = _; simp
   have hb0 := ((jb (w.heap.size + 1) wc).alloc (by omega) (.cells #[.int .u64 e.index] 303)).drew
   (refine segw (D := OnB (w.heap.size + 1) wc) (hb0) ?_; unfold wpMix; simp only [pick, j1, j2, j3, j4]; (repeat (show wpQuiet _ _ _ _ (_ :: _) _; go_big_quiet_step (fail))); refine qn ?_; go_wp2_with fail)
   refine (CE _).mono ?_
   rintro en wa ⟨hr, hb'⟩
   rw [HS.out] at hr
   obtain ⟨v2, n2, rfl, hv2, hn2, hn2'⟩ := hr.out1
   have hn3 : n2 ≤ 30 := by have := HBV.out; omega
   have hb : Below wc.heap.size wc wa := (((jb wc.heap.size wc).al _).drew).trans (hb'.mono (by omega))
   have hza := hb'.size
   have hva := hv0.ext hb
   have hgb := ((Blk.new wc 303 [.int .u64 e.index]).ext (jb _ _).drew).ext (w' := wa) hb'
   have hba := hb.mono (B' := w.heap.size + 1) (by omega)
   have hlt2 := hv2.lt
   clear hb' hr
   go_wp2_with fail
   (refine segw (D := OnB (w.heap.size + 1) wc) (hba) ?_; unfold wpMix; simp only [pick, j1, j2, j3, j4]; (repeat (show wpQuiet _ _ _ _ (_ :: _) _; go_big_quiet_step (fail))); refine qn ?_)
   refine wpList_append_bts rfl (.tmp 57) (.tmp 60) rfl (w.heap.size + 1) wc.heap.size _ n0 rfl hva v2 n2 rfl (hv2.base_ (by omega)) (by omega) (fun g hg h => by have := (hlt0 g h.symm).2; omega) (by omega) (by omega) ?_
   intro v3 wb hv3 hb3 hg3 hat3
   have HB4 := hba.trans hb3
   have hzb := hb3.size
   have hgb' := hgb.only (Only.grown hg3 (F := fun g => g ≠ wc.heap.size) (fun g hg e => by have := (hlt0 g hg).2; omega)) (fun h => h rfl)
   have hne : some wc.heap.size ≠ v3.ownBlock := fun h => by
    rcases hat3 with h' | h'
    ·have := (hlt0 _ (h'.symm.trans h.symm)).2; omega
    ·rw [h'] at h; injection h with h; omega
   (refine segw (D := OnB (w.heap.size + 1) wc) (HB4) ?_; unfold wpMix; simp only [pick, j1, j2, j3, j4]; (repeat (show wpQuiet _ _ _ _ (_ :: _) _; go_big_quiet_step (fail))); refine qn ?_; go_wp2_with fail)
   have hnums := (nums1_ex v3 (n0 + n2) (w.heap.size + 1) wc.heap.size 303 e.index wb hv3 hgb' ⟨by omega, by simp only [limV]; omega⟩ (by omega) (by omega) hne)
   refine hnums.mono ?_
   clear hnums
   rintro en wd ⟨⟨v5, n5, rfl, hv5, hn5, hn5', _⟩, ho5⟩
   have hb5 : Below (w.heap.size + 1) wc wd := HB4.trans (ho5.low (fun g hg => (hv3.lt g hg).1) (by omega))
   go_wp2_with fail
   (refine segw (D := OnB (w.heap.size + 1) wc) (hb5) ?_; unfold wpMix; simp only [pick, j1, j2, j3, j4]; (repeat (show wpQuiet _ _ _ _ (_ :: _) _; go_big_quiet_step (fail))); refine qn ?_; go_wp2_with fail)
   go_ret
   refine ⟨?_, hw3.trans ((hbc.trans hb5).mono (by omega))⟩
   rw [HGD.out.1]
   have := HN0.out
   have q : lenE e = lenE0 e + lenT e.stamp + vlen e.index := rfl
   exact GotEnc.yes ⟨_, n5, rfl, hv5.base_ (by omega), by omega, by omega⟩
theorem encodeE_ex (e : Event) (w : World) (hf : e.fit) (hT : Tabs w) (h2 : 2 ≤ w.heap.size) :
 Calls Tryz.prog 232 #[e.val] w fun en w' => GotEnc (eventB e) w.heap.size (lenE e) (lenE e) en w' ∧ Below w.heap.size w w' := by
 cases h : eventB e
 ·refine (encodeE_bad e w hf hT h2 h).mono ?_
  rintro en w' ⟨h1, h2⟩
  rw [h] at h1
  exact ⟨.no h1.out0, h2⟩
 ·have := encodeE_good e w hf hT h2 h
  rwa [h] at this
theorem encodeE_any (e : Event) (w : World) (hf : e.fit) (hT : Tabs w) (h2 : 2 ≤ w.heap.size) :
 Calls Tryz.prog 232 #[e.val] w fun en w' => GotEnc (eventB e) w.heap.size 1 1300 en w' ∧ Below w.heap.size w w' :=
 (encodeE_ex e w hf hT h2).mono fun _ _ h => ⟨h.1.wide (fun q => (lenE_bd q).1) (fun q => (lenE_bd q).2.1), h.2⟩
end Go.Proofs.YtcmjgghkmdbphaaGreatDoor
namespace Go.Proofs.YtcmjgghkmdbphaaGreatDoor
open Go.RowKit
def knownB (k : Known) : Bool := !k.key.toList.isEmpty && (keyB k.key && (decide (1 ≤ k.first) && (decide (k.first ≤ 1099511627776) && soundB k.stamp)))
theorem knownB_iff {k : Known} : knownB k = true ↔ k.key.toList.isEmpty = false ∧ keyB k.key = true ∧ 1 ≤ k.first ∧ k.first ≤ 1099511627776 ∧ soundB k.stamp = true := by
 simp only [knownB, Bool.and_eq_true, decide_eq_true_eq, Bool.not_eq_true']
def Known.val (k : Known) : Value := .agg #[.string k.key, .int .i64 k.first, .int .i64 k.stamp.wall, .int .i64 k.stamp.logic, .int .i64 k.stamp.node]
theorem known_any (k : Known) (w : World) (hf : sfit k.key) (hT : Tabs w) :
 Calls Tryz.prog 233 #[k.val] w fun en w' => en = .returned (.bool (knownB k)) ∧ Below w.heap.size w w' := by
 have CN := fun W (h : Below w.heap.size w W) => keyF k.key W hf (hT.below h)
 have CS := fun W => sound_any k.stamp W
 unfold Known.val
 unfold Stamp.val at CS
 have hcase : k.key.toList.isEmpty = true ∨ (k.key.toList.isEmpty = false ∧ keyB k.key = false) ∨ (k.key.toList.isEmpty = false ∧ keyB k.key = true ∧ ¬ 1 ≤ k.first) ∨
  (k.key.toList.isEmpty = false ∧ keyB k.key = true ∧ 1 ≤ k.first ∧ ¬ k.first ≤ 1099511627776) ∨ (k.key.toList.isEmpty = false ∧ keyB k.key = true ∧ 1 ≤ k.first ∧ k.first ≤ 1099511627776) := by
  cases k.key.toList.isEmpty <;> cases keyB k.key <;> by_cases 1 ≤ k.first <;> by_cases k.first ≤ 1099511627776 <;> simp only [*, and_true, or_false, not_true_eq_false, not_false_eq_true, or_true, and_false, Bool.false_eq_true, Bool.true_eq_false]
 have FX : ∀ W, Below (w.heap.size + 1) (w.alloc (.cells #[.string k.key, .int .i64 k.first, .int .i64 k.stamp.wall, .int .i64 k.stamp.logic, .int .i64 k.stamp.node] 49)) W →
  W.cell? ⟨w.heap.size, 0, none⟩ = some (.string k.key) ∧ W.cell? ⟨w.heap.size, 1, none⟩ = some (.int .i64 k.first) ∧ W.cell? ⟨w.heap.size, 2, none⟩ = some (.int .i64 k.stamp.wall) ∧ W.cell? ⟨w.heap.size, 3, none⟩ = some (.int .i64 k.stamp.logic) ∧ W.cell? ⟨w.heap.size, 4, none⟩ = some (.int .i64 k.stamp.node) := fun W h => by
  have B := (Blk.new w 49 k.cells)
  have K : ∀ (i : Nat) (v : Value), (w.alloc (.cells k.cells.toArray 49)).cell? ⟨w.heap.size, i, none⟩ = some v → W.cell? ⟨w.heap.size, i, none⟩ = some v := fun i v hv => (Below.cell h (p := ⟨w.heap.size, i, none⟩) (Nat.lt_succ_self _)).trans hv
  exact ⟨K 0 _ (B.cell 0), K 1 _ (B.cell 1), K 2 _ (B.cell 2), K 3 _ (B.cell 3), K 4 _ (B.cell 4)⟩
 have HCUT := jh (show ∀ W, Below (w.alloc (.cells #[.string k.key, .int .i64 k.first, .int .i64 k.stamp.wall, .int .i64 k.stamp.logic, .int .i64 k.stamp.node] 49)).heap.size (w.alloc (.cells #[.string k.key, .int .i64 k.first, .int .i64 k.stamp.wall, .int .i64 k.stamp.logic, .int .i64 k.stamp.node] 49)) W →
  Below w.heap.size w W ∧ Below (w.heap.size + 1) (w.alloc (.cells #[.string k.key, .int .i64 k.first, .int .i64 k.stamp.wall, .int .i64 k.stamp.logic, .int .i64 k.stamp.node] 49)) W from fun W h => ⟨((jb _ _).al _).tr h, h.mono (by simp)⟩)
 have HFX := jh FX
 clear FX
 rcases hcase with g | g | g | g | g
 ·have gn : (!k.key.toList.isEmpty) = false := by rw [g]; rfl
  have HG := jh g
  clear g
  go_enter Tryz.func233, Tryz.ntmps233
  go_wp2_with fail
  go_ret
  have hbad : knownB k = false := Bool.eq_false_iff.2 fun h => by
   have h := knownB_iff.1 h
   rw [HG.out] at h; exact absurd h.1 (by simp)
  exact ⟨ret_bool hbad.symm, (((jb _ _).al _))⟩
 ·have gn : (!k.key.toList.isEmpty) = true := by rw [g.1]; rfl
  have gk : keyB k.key = false := g.2
  have HG := jh g
  clear g
  go_enter Tryz.func233, Tryz.ntmps233
  go_wp2_with fail
  refine (CN _ ((jb _ _).al _)).mono ?_
  rintro en w1 ⟨rfl, hb1⟩
  rw [gk]
  obtain ⟨hw1, hx1⟩ := HCUT.out w1 hb1
  have hz1 := hb1.size
  simp only [World.size_alloc] at hz1
  clear hb1
  obtain ⟨y0, y1, y2, y3, y4⟩ := HFX.out w1 hx1
  go_wp2_with fail
  go_ret
  have hbad : knownB k = false := Bool.eq_false_iff.2 fun h => by
   have h := knownB_iff.1 h
   rw [HG.out.2] at h; exact absurd h.2.1 (by simp)
  exact ⟨ret_bool hbad.symm, hw1⟩
 ·have gn : (!k.key.toList.isEmpty) = true := by rw [g.1]; rfl
  have gk : keyB k.key = true := g.2.1
  have g1 : decide ((1 : Int) ≤ k.first) = false := jd g.2.2
  have HG := jh g
  clear g
  go_enter Tryz.func233, Tryz.ntmps233
  go_wp2_with fail
  refine (CN _ ((jb _ _).al _)).mono ?_
  rintro en w1 ⟨rfl, hb1⟩
  rw [gk]
  obtain ⟨hw1, hx1⟩ := HCUT.out w1 hb1
  have hz1 := hb1.size
  simp only [World.size_alloc] at hz1
  clear hb1
  obtain ⟨y0, y1, y2, y3, y4⟩ := HFX.out w1 hx1
  go_wp2_with fail
  go_ret
  have hbad : knownB k = false := Bool.eq_false_iff.2 fun h => by
   have h := knownB_iff.1 h
   have := HG.out.2; omega
  exact ⟨ret_bool hbad.symm, hw1⟩
 ·have gn : (!k.key.toList.isEmpty) = true := by rw [g.1]; rfl
  have gk : keyB k.key = true := g.2.1
  have g1 : (1 : Int) ≤ k.first := g.2.2.1
  have g2 : decide (k.first ≤ 1099511627776) = false := jd g.2.2.2
  have HG := jh g
  clear g
  go_enter Tryz.func233, Tryz.ntmps233
  go_wp2_with fail
  refine (CN _ ((jb _ _).al _)).mono ?_
  rintro en w1 ⟨rfl, hb1⟩
  rw [gk]
  obtain ⟨hw1, hx1⟩ := HCUT.out w1 hb1
  have hz1 := hb1.size
  simp only [World.size_alloc] at hz1
  clear hb1
  obtain ⟨y0, y1, y2, y3, y4⟩ := HFX.out w1 hx1
  go_wp2_with fail
  go_ret
  have hbad : knownB k = false := Bool.eq_false_iff.2 fun h => by
   have h := knownB_iff.1 h
   have := HG.out.2; omega
  exact ⟨ret_bool hbad.symm, hw1⟩
 ·have gn : (!k.key.toList.isEmpty) = true := by rw [g.1]; rfl
  have gk : keyB k.key = true := g.2.1
  have g1 : (1 : Int) ≤ k.first := g.2.2.1
  have g2 : k.first ≤ 1099511627776 := g.2.2.2
  have HG := jh g
  clear g
  go_enter Tryz.func233, Tryz.ntmps233
  go_wp2_with fail
  refine (CN _ ((jb _ _).al _)).mono ?_
  rintro en w1 ⟨rfl, hb1⟩
  rw [gk]
  obtain ⟨hw1, hx1⟩ := HCUT.out w1 hb1
  have hz1 := hb1.size
  simp only [World.size_alloc] at hz1
  clear hb1
  obtain ⟨y0, y1, y2, y3, y4⟩ := HFX.out w1 hx1
  go_wp2_with fail
  refine (CS w1).mono ?_
  clear CS y0 y1 y2 y3 y4
  rintro en w2 ⟨rfl, hb2⟩
  go_wp2_with fail
  go_ret
  refine ⟨ret_bool ?_, hw1.tr hb2⟩
  unfold knownB
  rw [HG.out.1, HG.out.2.1, decide_eq_true HG.out.2.2.1, decide_eq_true HG.out.2.2.2]
  rfl
end Go.Proofs.YtcmjgghkmdbphaaGreatDoor
namespace Go.Proofs.YtcmjgghkmdbphaaGreatDoor
open Go.RowKit
theorem Bts.some_ {w : World} {base n : Nat} {v : Value} (h : Bts w base v n) (hn : 1 ≤ n) : ∃ b o c, v = .slice (some ⟨b, o, none⟩) n c := by
 obtain ⟨A, c, rfl, _⟩ := h.form
 obtain ⟨l, rfl, hrow⟩ := h.row
 obtain ⟨b, o, cs, rfl, _⟩ := hrow.at_ (jg (show 0 < l.length by omega))
 exact ⟨b, o, c, rfl⟩
def okE (n : Str) (e : Event) : Bool := eventB e && decide (e.stream = n)
def streamB (s : Stream) : Bool := nameB s.name && (s.events.all (okE s.name) && s.keys.all knownB)
theorem toList_ne {a b : Str} (h : a ≠ b) : (a.toList == b.toList) = false := by
 rw [beq_eq_false_iff_ne]; intro e; apply h; rw [ByteArray.toList_eq, ByteArray.toList_eq] at e; obtain ⟨⟨x⟩⟩ := a; obtain ⟨⟨y⟩⟩ := b; simp at e; simp [e]
theorem all_take_snoc {α : Type} {p : α → Bool} {l : List α} {k : Nat} (h : (l.take k).all p = true) {a : α} (ha : l[k]? = some a) (hp : p a = true) : (l.take (k + 1)).all p = true := by
 rw [List.take_add_one, ha, List.all_append, h]; simp [hp]
theorem not_all {α : Type} {p : α → Bool} {l : List α} {k : Nat} {a : α} (ha : l[k]? = some a) (hp : p a = false) : l.all p = false := by
 rw [Bool.eq_false_iff]
 intro h
 rw [List.all_eq_true] at h
 have := h a (List.mem_of_getElem? ha)
 rw [hp] at this; cases this
def lenK (k : Known) : Nat := (vlen k.key.size + k.key.size) + vlen k.first + lenT k.stamp
def lensE (l : List Event) : Nat := (l.map lenE).sum
def lensK (l : List Known) : Nat := (l.map lenK).sum
def lenS0 (s : Stream) : Nat := (vlen s.name.size + s.name.size) + vlen s.events.length
def lenS (s : Stream) : Nat := lenS0 s + lensE s.events + vlen s.keys.length + lensK s.keys
theorem lensE_take {l : List Event} {k : Nat} {e : Event} (h : l[k]? = some e) : lensE (l.take (k + 1)) = lensE (l.take k) + lenE e := by
 unfold lensE; rw [List.take_add_one, h, List.map_append, List.sum_append]; simp
theorem lensK_take {l : List Known} {k : Nat} {e : Known} (h : l[k]? = some e) : lensK (l.take (k + 1)) = lensK (l.take k) + lenK e := by
 unfold lensK; rw [List.take_add_one, h, List.map_append, List.sum_append]; simp
theorem lensE_bd : ∀ l : List Event, l.all eventB = true → lensE l ≤ 1300 * l.length
 | [], _ => by simp [lensE]
 | a :: l, h => by
   rw [List.all_cons, Bool.and_eq_true] at h
   have h1 := lensE_bd l h.2
   have h2 := lenE_bd h.1
   have e : lensE (a :: l) = lenE a + lensE l := by simp [lensE]
   rw [e, List.length_cons]; omega
theorem lenK_bd {k : Known} (h : knownB k = true) : lenK k ≤ 250 := by
 have h1 := knownB_iff.1 h
 have h2 := keyB_short h1.2.1
 have b1 := vlen_bd k.key.size
 have b2 := vlen_bd k.first
 have b3 := lenT_bd k.stamp
 unfold lenK; omega
theorem lensK_bd : ∀ l : List Known, l.all knownB = true → lensK l ≤ 250 * l.length
 | [], _ => by simp [lensK]
 | a :: l, h => by
   rw [List.all_cons, Bool.and_eq_true] at h
   have h1 := lensK_bd l h.2
   have h2 := lenK_bd h.1
   have e : lensK (a :: l) = lenK a + lensK l := by simp [lensK]
   rw [e, List.length_cons]; omega
theorem streamB_parts {s : Stream} (h : streamB s = true) : nameB s.name = true ∧ s.events.all (okE s.name) = true ∧ s.keys.all knownB = true := by
 simpa only [streamB, Bool.and_eq_true] using h
theorem lenS_bd {s : Stream} (h : streamB s = true) : 1 ≤ lenS s ∧ lenS s ≤ 300 + 1300 * s.events.length + 250 * s.keys.length := by
 obtain ⟨h1, h2, h3⟩ := streamB_parts h
 have h4 := nameB_short h1
 have h5 : s.events.all eventB = true := by
  rw [List.all_eq_true] at h2 ⊢
  intro x hx
  have := h2 x hx
  simp only [okE, Bool.and_eq_true] at this
  exact this.1
 have b1 := lensE_bd _ h5
 have b2 := lensK_bd _ h3
 have b3 := vlen_bd s.name.size
 have b4 := vlen_bd s.events.length
 have b5 := vlen_bd s.keys.length
 unfold lenS lenS0; omega
theorem encodeS_ex (s : Stream) (A A' : Option Addr) (c c' : Nat) (P : Nat → Prop) (w : World) (hn : sfit s.name) (hr : EventR.Row w P A s.events) (hr' : KnownR.Row w P A' s.keys) (hl : s.events.length ≤ 40000) (hl' : s.keys.length ≤ 40000) (hT : Tabs w) (_h2 : 2 ≤ w.heap.size) :
 Calls Tryz.prog 137 #[.agg #[.string s.name, .slice A s.events.length c, .slice A' s.keys.length c']] w fun en w' => GotEnc (streamB s) w.heap.size (lenS s) (lenS s) en w' ∧ Below w.heap.size w w' := by
 have HBV := jh (ja (vlen_bd s.name.size) (ja (vlen_bd s.events.length) (vlen_bd s.keys.length)))
 have C := nameF s.name (w.alloc (.cells #[.string s.name, .slice A s.events.length c, .slice A' s.keys.length c'] 199)) hn (hT.below ((jb _ _).al _))
 have HR := jh (hr.mono (Q := fun g => g < w.heap.size) fun g _ h => h)
 have HR' := jh (hr'.mono (Q := fun g => g < w.heap.size) fun g _ h => h)
 clear hr hr'
 have CS := jh (fun s W => encode_ex s W)
 unfold Stamp.val at CS
 have CE := jh (fun e W => encodeE_ex e W)
 unfold Event.val at CE
 have CK := jh (fun k W => known_any k W)
 unfold Known.val at CK
 cases hq : nameB s.name
 ·have HQ := jh hq
  rw [hq] at C
  clear hq
  go_enter Tryz.func137, Tryz.ntmps137
  go_wp2_with fail
  refine C.mono ?_
  clear C
  rintro en w1 ⟨rfl, hb1⟩
  go_wp2_with fail
  go_ret
  exact ⟨by rw [show streamB s = false from by unfold streamB; rw [HQ.out]; rfl]; exact GotEnc.no rfl, ((jb _ _).al _).tr hb1⟩
 ·have HQ := jh hq
  have HNS := jh (nameB_short hq)
  rw [hq] at C
  clear hq
  go_enter Tryz.func137, Tryz.ntmps137
  go_wp2_with fail
  refine C.mono ?_
  clear C
  rintro en w1 ⟨rfl, hb1⟩
  have B1 := (Blk.new w 199 [.string s.name, .slice A s.events.length c, .slice A' s.keys.length c']).ext hb1
  have hw1 : Below w.heap.size w w1 := ((jb _ _).al _).tr hb1
  have hz1 := hb1.size
  simp only [World.size_alloc] at hz1
  have hdr : w1.drew.heap.size = w1.heap.size := rfl
  clear hb1
  have FX := jh (show ∀ W, Below (w.heap.size + 1) w1 W → W.cell? ⟨w.heap.size, 0, none⟩ = some (.string s.name) ∧ W.cell? ⟨w.heap.size, 1, none⟩ = some (.slice A s.events.length c) ∧ W.cell? ⟨w.heap.size, 2, none⟩ = some (.slice A' s.keys.length c') from fun W h => by
   have K : ∀ (i : Nat) (v : Value), w1.cell? ⟨w.heap.size, i, none⟩ = some v → W.cell? ⟨w.heap.size, i, none⟩ = some v := fun i v hv => (Below.cell h (p := ⟨w.heap.size, i, none⟩) (Nat.lt_succ_self _)).trans hv
   exact ⟨K 0 _ (B1.cell 0), K 1 _ (B1.cell 1), K 2 _ (B1.cell 2)⟩)
  obtain ⟨y0, y1, y2⟩ := FX.out w1 (jb _ _)
  have x0 := OnB.cell (B := w.heap.size + 1) (W := w1) (by omega) y0
  have x1 := OnB.cell (B := w.heap.size + 1) (W := w1) (by omega) y1
  clear y0 y1 y2
  go_wp2_with fail
  go_cut [3] from 13 to 21 (fun v wx => ∃ n, Bts wx (w.heap.size + 1) v n ∧ 1 ≤ n ∧ n ≤ 200 ∧ Below (w.heap.size + 1) w1 wx ∧ Hid (n = lenS0 s))
  case first =>
   refine wp_region_mix (.fork [0, 1, 3, 4, 5, 6] 2 (.seg [] 7 (.seg [] 8 (.leaf [9]))) 7 (.seg [] 2 (.seg [] 8 (.leaf [9])))) (fun w' => ∃ d : Wd (OnB (w.heap.size + 1) w1), w' = d.w) (by kernel_rfl) (by kernel_rfl) (fun _ _ d _ _ h => by cases d <;> exact h) (ClsW.mk (jb _ _).drew) ?_
   unfold wpMix; simp only [pick, j1, j2, j3, j4]
   (repeat (show wpQuiet _ _ _ _ (_ :: _) _; go_big_quiet_step (fail))); refine qn ?_
   constructor
   ·go_wp2_with fail
    refine (text_ex _ 0 0 s.name _ (Bts.nil_ _ _) (by have := HNS.out; have := HBV.out; omega)).mono ?_
    rintro en w2 ⟨⟨v2, n2, rfl, hv2, hn2, hn2'⟩, hb2'⟩
    have hb2 : Below w1.heap.size w1 w2 := (jb _ w1).drew.tr hb2'
    clear hb2'
    go_wp2_with fail
    (refine segw (D := OnB (w.heap.size + 1) w1) (hb2.mono (by omega)) ?_; unfold wpMix; simp only [pick, j1, j2, j3, j4]; (repeat (show wpQuiet _ _ _ _ (_ :: _) _; go_big_quiet_step (fail))); refine qn ?_; go_wp2_with fail)
    (refine segw (D := OnB (w.heap.size + 1) w1) ((hb2.mono (by omega)).alloc (by have := hb2.size; omega) _) ?_; unfold wpMix; simp only [pick, j1, j2, j3, j4]; (repeat (show wpQuiet _ _ _ _ (_ :: _) _; go_big_quiet_step (fail))); refine qn ?_; go_wp2_with fail)
    have hne : some w2.heap.size ≠ v2.ownBlock := fun h => by have := (hv2.lt _ h.symm).2; omega
    have hnums := (nums1_ex v2 n2 (w.heap.size + 1) w2.heap.size 303 (s.events.length : Int) _ ((hv2.base_ hz1).ext ((jb _ _).al _)) (Blk.new w2 _ _) ⟨by omega, by simp only [limV]; omega⟩ (by have := HNS.out; have := HBV.out; omega) (by have := hb2.size; simp; omega) hne)
    refine hnums.mono ?_
    clear hnums
    rintro en w3 ⟨⟨v3, n3, rfl, hv3, hn3, hn3', _⟩, ho3⟩
    have hb3 : Below (w.heap.size + 1) w1 w3 := ((hb2.mono hz1).alloc (by have := hb2.size; omega) _).trans (ho3.low (fun g hg => by have := (hv2.lt g hg).1; exact Nat.le_trans hz1 this) (by have := hb2.size; simp; omega))
    go_wp2_with fail
    (refine segw (D := OnB (w.heap.size + 1) w1) (hb3) ?_; unfold wpMix; simp only [pick, j1, j2, j3, j4]; (repeat (show wpQuiet _ _ _ _ (_ :: _) _; go_big_quiet_step (fail))); refine qn ?_; go_wp2_with fail)
    go_meet
    have := HBV.out
    exact ⟨n3, hv3, by omega, by have := HNS.out; omega, hb3, jh (by unfold lenS0; omega)⟩
   ·go_wp2_with fail
    have hsz : ((w1.alloc (.cells #[.int .u64 (s.events.length : Int)] 303)).drew).heap.size = w1.heap.size + 1 := by show (w1.alloc _).heap.size = _; simp
    (refine segw (D := OnB (w.heap.size + 1) w1) (((jb _ w1).alloc (by omega) _).drew) ?_; unfold wpMix; simp only [pick, j1, j2, j3, j4]; (repeat (show wpQuiet _ _ _ _ (_ :: _) _; go_big_quiet_step (fail))); refine qn ?_; go_wp2_with fail)
    refine (text_ex _ 0 0 s.name _ (Bts.nil_ _ _) (by have := HNS.out; have := HBV.out; omega)).mono ?_
    rintro en w2 ⟨⟨v2, n2, rfl, hv2, hn2, hn2'⟩, hb2'⟩
    have hb2 := (((jb (w.heap.size + 1) w1).alloc (by omega) (.cells #[.int .u64 (s.events.length : Int)] 303)).drew).trans (hb2'.mono (by omega))
    have hg2 := ((Blk.new w1 303 [.int .u64 (s.events.length : Int)]).ext (jb _ _).drew).ext (w' := w2) hb2'
    have hz2 := hb2'.size
    have hlt2 := hv2.lt
    clear hb2'
    go_wp2_with fail
    (refine segw (D := OnB (w.heap.size + 1) w1) (hb2) ?_; unfold wpMix; simp only [pick, j1, j2, j3, j4]; (repeat (show wpQuiet _ _ _ _ (_ :: _) _; go_big_quiet_step (fail))); refine qn ?_; go_wp2_with fail)
    have hne : some w1.heap.size ≠ v2.ownBlock := fun h => by have := (hlt2 _ h.symm).1; omega
    have hnums := (nums1_ex v2 n2 (w.heap.size + 1) w1.heap.size 303 (s.events.length : Int) w2 (hv2.base_ (by omega)) hg2 ⟨by omega, by simp only [limV]; omega⟩ (by have := HNS.out; have := HBV.out; omega) (by omega) hne)
    refine hnums.mono ?_
    clear hnums
    rintro en w3 ⟨⟨v3, n3, rfl, hv3, hn3, hn3', _⟩, ho3⟩
    have hb3 : Below (w.heap.size + 1) w1 w3 := hb2.trans (ho3.low (fun g hg => by have := (hlt2 g hg).1; omega) (by omega))
    go_wp2_with fail
    (refine segw (D := OnB (w.heap.size + 1) w1) (hb3) ?_; unfold wpMix; simp only [pick, j1, j2, j3, j4]; (repeat (show wpQuiet _ _ _ _ (_ :: _) _; go_big_quiet_step (fail))); refine qn ?_; go_wp2_with fail)
    go_meet
    have := HBV.out
    exact ⟨n3, hv3, by omega, by have := HNS.out; omega, hb3, jh (by unfold lenS0; omega)⟩
  case rest =>
   obtain ⟨n0, hv0, hn0, hn0', hbc, HN0⟩ := hcut
   clear x0 x1
   obtain ⟨y0, y1, y2⟩ := FX.out wc hbc
   have hzc := hbc.size
   go_wp2_with fail
   clear y0 y1 y2
   go_loopw [3, 5, 6, 25] (fun out _ _ i wr => ∃ (k n : Nat), k ≤ s.events.length ∧ i = .int .i64 k ∧ Bts wr (w.heap.size + 1) out n ∧ 1 ≤ n ∧ n ≤ 200 + 1300 * k ∧ (s.events.take k).all (okE s.name) = true ∧ Below (w.heap.size + 1) w1 wr ∧ Hid (n = lenS0 s + lensE (s.events.take k))) (fun _ _ _ i _ => s.events.length - (intOf i).toNat)
   case atStart => exact ⟨0, n0, Nat.zero_le _, rfl, hv0, by omega, by omega, rfl, hbc, jh (by have := HN0.out; simpa [lensE] using this)⟩
   case round =>
    obtain ⟨k, n, hkl, rfl, hv, hn1, hn2, hall, hbl, HN⟩ := hrel
    have HALL := jh hall
    clear hall
    have hzr := hbl.size
    by_cases hlt : k < s.events.length
    ·have hlk := jg hlt
     obtain ⟨bb, o, cs, rfl, hP, hbw, hrep, hcs⟩ := (HR.out.ext (hw1.trans (hbl.mono (by omega)))).at_ hlk
     generalize s.events[k] = e at hlk hrep
     obtain ⟨rfl, hfit⟩ := event_rep.1 hrep
     unfold Event.cells at hcs
     have c0 := hcs 0 _ rfl; have c1 := hcs 1 _ rfl; have c2 := hcs 2 _ rfl; have c3 := hcs 3 _ rfl; have c4 := hcs 4 _ rfl; have c5 := hcs 5 _ rfl; have c6 := hcs 6 _ rfl; simp only [EventR_size, Nat.add_zero] at c0 c1 c2 c3 c4 c5 c6
     have HLK := jh hlk; have HF := jh hfit; clear hlk hfit hcs hrep
     have hlt' : (k : Int) < s.events.length := by omega
     go_wp2_with fail
     have hbx := Blk.new wr 202 e.cells
     have hax := (jb wr.heap.size wr).al (.cells e.cells.toArray 202)
     have hCE := CE.out e _ HF.out ((hT.below (hw1.trans (hbl.mono (by omega)))).below hax) (by have := hax.size; omega)
     refine hCE.mono ?_
     clear hCE c0 c1 c2 c3 c4 c5 c6
     rintro en w2 ⟨hres, hb2⟩
     have hzx : (wr.alloc (.cells e.cells.toArray 202)).heap.size = wr.heap.size + 1 := by simp
     have hb12 := hax.trans (hb2.mono (by omega))
     have hbl2 := hbl.trans (hb12.mono (by omega))
     have hbx2 := hbx.ext hb2
     have z0 : w2.cell? ⟨wr.heap.size, 0, none⟩ = some (.string e.stream) := hbx2.cell 0
     obtain ⟨y0, y1, y2⟩ := FX.out w2 hbl2
     have hv2 := hv.ext hb12
     have hz2 := hb2.size
     have HWK : Hid (wrap64 ((k : Int) + 1) = ((k + 1 : Nat) : Int)) := jh (by rw [wrap_in _ (by omega)]; rfl)
     by_cases he : eventB e = true
     ·rw [he] at hres
      obtain ⟨ve, ne, rfl, hve, hnx1, hnx2⟩ := hres.out1
      have hnb := lenE_bd he
      have HNE := jh (show ne = lenE e by omega)
      have hne1 : 1 ≤ ne := by omega
      have hne2 : ne ≤ 1300 := by omega
      clear hnx1 hnx2 hnb
      have HVE := jh hve
      obtain ⟨be, oe, ce, rfl⟩ := hve.some_ hne1
      clear hve hbx hbx2
      have hq1 := fun (w : World) => Lib.run_eql_slice_nil (P := Tryz.prog) w 215 5 (some ⟨be, oe, none⟩) ne ce 0 0 Tryz.underlying215
      by_cases hs : e.stream = s.name
      ·have HS := jh (ja he hs)
       have hs' : (e.stream.toList == s.name.toList) = true := by rw [hs]; exact beq_self_eq_true _
       clear he hs hres
       have hlt2 := hv.lt
       go_wp2_with (at_builtin; refine wpList_append_bts rfl (.tmp 40) (.tmp 41) rfl (w.heap.size + 1) (wr.heap.size + 1) _ n rfl hv2 _ ne rfl (HVE.out.base_ (by omega)) (by omega) (fun g hg h => by have := (hlt2 g h.symm).2; omega) (by omega) (by omega) ?_; intro v3 w3 hv3 hb3 _ _)
       go_round
       case rel => exact ⟨k + 1, n + ne, by omega, by first | rfl | rw [HWK.out], hv3, by omega, by omega, all_take_snoc HALL.out HLK.out (by unfold okE; rw [HS.out.1, decide_eq_true HS.out.2]; rfl), hbl2.trans hb3, jh (by have q1 := HN.out; have q2 := HNE.out; have q3 := lensE_take HLK.out; omega)⟩
       case measure => first | (simp [intOf]; omega) | (rw [HWK.out]; simp [intOf]; omega)
      ·have HS := jh hs
       have hs' : (e.stream.toList == s.name.toList) = false := toList_ne hs
       clear hs hres
       go_wp2_with fail
       go_ret
       refine ⟨?_, hw1.trans (hbl2.mono (by omega))⟩
       rw [show streamB s = false from by
        unfold streamB
        rw [not_all HLK.out (by unfold okE; rw [jd HS.out, Bool.and_false]), Bool.false_and, Bool.and_false]]
       exact GotEnc.no rfl
     ·have he' : eventB e = false := by simpa using he
      rw [he'] at hres
      obtain rfl := hres.out0
      have HE := jh he'
      clear he he' hres hbx hbx2
      have hq1 := fun (w : World) => Lib.run_eql_slice_nil (P := Tryz.prog) w 215 5 none 0 0 0 0 Tryz.underlying215
      go_wp2_with fail
      go_ret
      refine ⟨?_, hw1.trans (hbl2.mono (by omega))⟩
      rw [show streamB s = false from by
       unfold streamB
       rw [not_all HLK.out (by unfold okE; rw [HE.out, Bool.false_and]), Bool.false_and, Bool.and_false]]
      exact GotEnc.no rfl
    ·have hkn : k = s.events.length := by omega
     subst hkn
     have HN1 : Hid (n = lenS0 s + lensE s.events) := jh (by have q := HN.out; rwa [List.take_length] at q)
     obtain ⟨y0, y1, y2⟩ := FX.out wr hbl
     have hz2 : (wr.alloc (.cells #[.int .u64 (s.keys.length : Int)] 303)).heap.size = wr.heap.size + 1 := by simp
     go_wp2_with fail
     have hne : some wr.heap.size ≠ u3.ownBlock := fun h => by have := (hv.lt _ h.symm).2; omega
     have hnums := (nums1_ex u3 n (w.heap.size + 1) wr.heap.size 303 (s.keys.length : Int) _ (hv.ext ((jb _ _).al _)) (Blk.new wr _ _) ⟨by omega, by simp only [limV]; omega⟩ (by omega) (by omega) hne)
     refine hnums.mono ?_
     clear hnums y0 y1 y2
     rintro en w3 ⟨⟨v3, n3, rfl, hv3, hnx3, hnx3', _⟩, ho3⟩
     have hvk := HBV.out.2.2
     have HN3 := jh (show n3 = n + vlen (s.keys.length : Int) by omega)
     have hn3 : n + 1 ≤ n3 := by omega
     have hn3' : n3 ≤ n + 10 := by omega
     clear hnx3 hnx3' hvk
     have hb3 : Below (w.heap.size + 1) w1 w3 := (hbl.alloc (by omega) _).trans (ho3.low (fun g hg => (hv.lt g hg).1) (by omega))
     obtain ⟨y0, y1, y2⟩ := FX.out w3 hb3
     clear hv ho3
     go_wp2_with fail
     clear y0 y1 y2
     go_loopw [3, 8, 54] (fun out _ i wr => ∃ (k m : Nat), k ≤ s.keys.length ∧ i = .int .i64 k ∧ Bts wr (w.heap.size + 1) out m ∧ 1 ≤ m ∧ m ≤ n3 + 250 * k ∧ (s.keys.take k).all knownB = true ∧ Below (w.heap.size + 1) w1 wr ∧ Hid (m = n3 + lensK (s.keys.take k))) (fun _ _ i _ => s.keys.length - (intOf i).toNat)
     case atStart => exact ⟨0, n3, Nat.zero_le _, rfl, hv3, by omega, by omega, rfl, hb3, jh (by simp [lensK])⟩
     case round =>
      obtain ⟨k, m, hkl', rfl, hv, hm1, hm2, hall, hbl', HM⟩ := hrel
      have HALL' := jh hall
      clear hall
      have hzr := hbl'.size
      by_cases hlt : k < s.keys.length
      ·have hlk := jg hlt
       obtain ⟨bb, o, cs, rfl, hP, hbw, hrep, hcs⟩ := (HR'.out.ext (hw1.trans (hbl'.mono (by omega)))).at_ hlk
       generalize s.keys[k] = e at hlk hrep
       obtain ⟨rfl, hfit⟩ := known_rep.1 hrep
       unfold Known.cells at hcs
       have c0 := hcs 0 _ rfl; have c1 := hcs 1 _ rfl; have c2 := hcs 2 _ rfl; have c3 := hcs 3 _ rfl; have c4 := hcs 4 _ rfl; simp only [KnownR_size, Nat.add_zero] at c0 c1 c2 c3 c4
       have HLK := jh hlk; have HF := jh hfit; clear hlk hfit hcs hrep
       have hlt' : (k : Int) < s.keys.length := by omega
       go_wp2_with fail
       have hbx := Blk.new wr 49 e.cells
       have hax := (jb wr.heap.size wr).al (.cells e.cells.toArray 49)
       have hCK := CK.out e _ HF.out.1 ((hT.below (hw1.trans (hbl'.mono (by omega)))).below hax)
       refine hCK.mono ?_
       clear hCK c0 c1 c2 c3 c4
       rintro en w2 ⟨rfl, hb2⟩
       have hzx : (wr.alloc (.cells e.cells.toArray 49)).heap.size = wr.heap.size + 1 := by simp
       have hb12 := hax.trans (hb2.mono (by omega))
       have hbl2 := hbl'.trans (hb12.mono (by omega))
       have hbx2 := hbx.ext hb2
       have hv2 := hv.ext hb12
       have hz2 := hb2.size
       have HWK : Hid (wrap64 ((k : Int) + 1) = ((k + 1 : Nat) : Int)) := jh (by rw [wrap_in _ (by omega)]; rfl)
       cases he : knownB e
       ·have HE := jh he
        clear he hbx hbx2
        go_wp2_with fail
        go_ret
        refine ⟨?_, hw1.trans (hbl2.mono (by omega))⟩
        rw [show streamB s = false from by
         unfold streamB
         rw [not_all HLK.out HE.out, Bool.and_false, Bool.and_false]]
        exact GotEnc.no rfl
       ·have HE := jh he
        have HKI := jh (knownB_iff.1 he)
        have hks := keyB_short HKI.out.2.1
        have hk1 := HKI.out.2.2.1
        have hk2 := HKI.out.2.2.2.1
        have hkv1 := vlen_bd e.key.size
        have hkv2 := vlen_bd e.first
        have hkv3 := lenT_bd e.stamp
        have HLT := jh (ja (lensK_take HLK.out) (show lenK e = (vlen e.key.size + e.key.size) + vlen e.first + lenT e.stamp from rfl))
        clear he
        have hlt2 := hv.lt
        generalize wr.heap.size = bx at *
        have x0 := OnB.cell (B := bx + 1) (W := w2) (by omega) (hbx2.cell 0 : w2.cell? ⟨bx, 0, none⟩ = some (.string e.key))
        have x1 := OnB.cell (B := bx + 1) (W := w2) (by omega) (hbx2.cell 1 : w2.cell? ⟨bx, 1, none⟩ = some (.int .i64 e.first))
        have x2 := OnB.cell (B := bx + 1) (W := w2) (by omega) (hbx2.cell 2 : w2.cell? ⟨bx, 2, none⟩ = some (.int .i64 e.stamp.wall))
        have x3 := OnB.cell (B := bx + 1) (W := w2) (by omega) (hbx2.cell 3 : w2.cell? ⟨bx, 3, none⟩ = some (.int .i64 e.stamp.logic))
        have x4 := OnB.cell (B := bx + 1) (W := w2) (by omega) (hbx2.cell 4 : w2.cell? ⟨bx, 4, none⟩ = some (.int .i64 e.stamp.node))
        have hdw : w2.drew.heap.size = w2.heap.size := rfl
        clear hbx hbx2
        go_wp2_with fail
        refine wp_region_mix (.fork [0, 1, 2, 4, 5, 6, 9, 10] 3 (.seg [] 7 (.seg [] 8 (.seg [] 11 (.seg [] 12 (.leaf [13]))))) 7 (.seg [] 3 (.seg [] 8 (.seg [] 11 (.seg [] 12 (.leaf [13])))))) (fun w' => ∃ d : Wd (OnB (bx + 1) w2), w' = d.w) (by kernel_rfl) (by kernel_rfl) (fun _ _ d _ _ h => by cases d <;> exact h) (ClsW.mk (jb _ _).drew) ?_
        unfold wpMix; simp only [pick, j1, j2, j3, j4]
        (repeat (show wpQuiet _ _ _ _ (_ :: _) _; go_big_quiet_step (fail))); refine qn ?_
        constructor
        ·go_wp2_with fail
         refine (text_ex _ m (w.heap.size + 1) e.key _ (hv2.ext (jb _ _).drew) (by omega)).mono ?_
         rintro en w3' ⟨⟨v3', n3', rfl, hv3', hm3, hm3'⟩, hb3'⟩
         have hb3 : Below w2.heap.size w2 w3' := (jb _ w2).drew.tr hb3'
         have hz3 := hb3.size
         have hlt3 := hv3'.lt
         clear hb3'
         go_wp2_with fail
         (refine segw (D := OnB (bx + 1) w2) (hb3.mono (by omega)) ?_; unfold wpMix; simp only [pick, j1, j2, j3, j4]; (repeat (show wpQuiet _ _ _ _ (_ :: _) _; go_big_quiet_step (fail))); refine qn ?_; go_wp2_with fail)
         have hsz : (w3'.alloc (.cells #[.int .u64 e.first] 303)).heap.size = w3'.heap.size + 1 := by simp
         have HB3 := (hb3.mono (B' := bx + 1) (by omega)).alloc (by omega) (.cells #[.int .u64 e.first] 303)
         (refine segw (D := OnB (bx + 1) w2) (HB3) ?_; unfold wpMix; simp only [pick, j1, j2, j3, j4]; (repeat (show wpQuiet _ _ _ _ (_ :: _) _; go_big_quiet_step (fail))); refine qn ?_; go_wp2_with fail)
         have hne : some w3'.heap.size ≠ v3'.ownBlock := fun h => by have := (hlt3 _ h.symm).2; omega
         have hnums := (nums1_ex v3' n3' (bx + 1) w3'.heap.size 303 e.first _ ((hv3'.base_ (by omega)).ext ((jb _ _).al _)) (Blk.new w3' _ _) ⟨by omega, by simp only [limV]; omega⟩ (by omega) (by omega) hne)
         refine hnums.mono ?_
         clear hnums
         rintro en w4 ⟨⟨v4, n4, rfl, hv4, hn4, hn4', _⟩, ho4⟩
         have hb4 : Below (bx + 1) w2 w4 := HB3.trans (ho4.low (fun g hg => by have := (hlt3 g hg).1; omega) (by omega))
         have hz4 := hb4.size
         have hlt4 := hv4.lt
         go_wp2_with fail
         (refine segw (D := OnB (bx + 1) w2) (hb4) ?_; unfold wpMix; simp only [pick, j1, j2, j3, j4]; (repeat (show wpQuiet _ _ _ _ (_ :: _) _; go_big_quiet_step (fail))); refine qn ?_; go_wp2_with fail)
         refine (CS.out e.stamp _).mono ?_
         rintro en w5 ⟨hr, hb5'⟩
         rw [HKI.out.2.2.2.2] at hr
         obtain ⟨v5, n5, rfl, hv5, hn5, hn5'⟩ := hr.out1
         have hb5 : Below w4.heap.size w4 w5 := hb5'
         have hb25 := hb4.trans (hb5.mono (B' := bx + 1) (by omega))
         have hz5 := hb5.size
         have hv4' := hv4.ext hb5
         clear hr hb5'
         go_wp2_with fail
         (refine segw (D := OnB (bx + 1) w2) (hb25) ?_; unfold wpMix; simp only [pick, j1, j2, j3, j4]; (repeat (show wpQuiet _ _ _ _ (_ :: _) _; go_big_quiet_step (fail))); refine qn ?_)
         refine wpList_append_bts rfl (.tmp 69) (.tmp 72) rfl (bx + 1) w4.heap.size _ n4 rfl hv4' v5 n5 rfl hv5 (by omega) (fun g hg h => by have := (hlt4 g h.symm).2; omega) (by omega) (by omega) ?_
         intro v6 w6 hv6 hb6 _ _
         go_simp
         (refine segw (D := OnB (bx + 1) w2) (hb25.trans hb6) ?_; unfold wpMix; simp only [pick, j1, j2, j3, j4]; (repeat (show wpQuiet _ _ _ _ (_ :: _) _; go_big_quiet_step (fail))); refine qn ?_; go_wp2_with fail)
         go_round
         case rel => exact ⟨k + 1, n4 + n5, by omega, by first | rfl | rw [HWK.out], hv6.base_ (by omega), by omega, by omega, all_take_snoc HALL'.out HLK.out HE.out, hbl2.trans ((hb25.trans hb6).mono (by omega)), jh (by have q1 := HM.out; have q2 := HLT.out; omega)⟩
         case measure => first | (simp [intOf]; omega) | (rw [HWK.out]; simp [intOf]; omega)
        ·go_wp2_with fail
         have hsz : ((w2.alloc (.cells #[.int .u64 e.first] 303)).drew).heap.size = w2.heap.size + 1 := by show (w2.alloc _).heap.size = _; simp
         have hb0 := ((jb (bx + 1) w2).alloc (by omega) (.cells #[.int .u64 e.first] 303)).drew
         (refine segw (D := OnB (bx + 1) w2) (hb0) ?_; unfold wpMix; simp only [pick, j1, j2, j3, j4]; (repeat (show wpQuiet _ _ _ _ (_ :: _) _; go_big_quiet_step (fail))); refine qn ?_; go_wp2_with fail)
         refine (text_ex _ m (w.heap.size + 1) e.key _ (hv2.ext (((jb _ _).al _).drew)) (by omega)).mono ?_
         rintro en w3' ⟨⟨v3', n3', rfl, hv3', hm3, hm3'⟩, hb3'⟩
         have HB3 := hb0.trans (hb3'.mono (B' := bx + 1) (by omega))
         have hz3 := hb3'.size
         have hlt3 := hv3'.lt
         have hg3 := ((Blk.new w2 303 [.int .u64 e.first]).ext (jb _ _).drew).ext (w' := w3') hb3'
         clear hb3'
         go_wp2_with fail
         (refine segw (D := OnB (bx + 1) w2) (HB3) ?_; unfold wpMix; simp only [pick, j1, j2, j3, j4]; (repeat (show wpQuiet _ _ _ _ (_ :: _) _; go_big_quiet_step (fail))); refine qn ?_; go_wp2_with fail)
         have hne : some w2.heap.size ≠ v3'.ownBlock := fun h => by have := (hlt3 _ h.symm).1; omega
         have hnums := (nums1_ex v3' n3' (bx + 1) w2.heap.size 303 e.first w3' (hv3'.base_ (by omega)) hg3 ⟨by omega, by simp only [limV]; omega⟩ (by omega) (by omega) hne)
         refine hnums.mono ?_
         clear hnums
         rintro en w4 ⟨⟨v4, n4, rfl, hv4, hn4, hn4', _⟩, ho4⟩
         have hb4 : Below (bx + 1) w2 w4 := HB3.trans (ho4.low (fun g hg => by have := (hlt3 g hg).1; omega) (by omega))
         have hz4 := hb4.size
         have hlt4 := hv4.lt
         go_wp2_with fail
         (refine segw (D := OnB (bx + 1) w2) (hb4) ?_; unfold wpMix; simp only [pick, j1, j2, j3, j4]; (repeat (show wpQuiet _ _ _ _ (_ :: _) _; go_big_quiet_step (fail))); refine qn ?_; go_wp2_with fail)
         refine (CS.out e.stamp _).mono ?_
         rintro en w5 ⟨hr, hb5'⟩
         rw [HKI.out.2.2.2.2] at hr
         obtain ⟨v5, n5, rfl, hv5, hn5, hn5'⟩ := hr.out1
         have hb5 : Below w4.heap.size w4 w5 := hb5'
         have hb25 := hb4.trans (hb5.mono (B' := bx + 1) (by omega))
         have hz5 := hb5.size
         have hv4' := hv4.ext hb5
         clear hr hb5'
         go_wp2_with fail
         (refine segw (D := OnB (bx + 1) w2) (hb25) ?_; unfold wpMix; simp only [pick, j1, j2, j3, j4]; (repeat (show wpQuiet _ _ _ _ (_ :: _) _; go_big_quiet_step (fail))); refine qn ?_)
         refine wpList_append_bts rfl (.tmp 69) (.tmp 72) rfl (bx + 1) w4.heap.size _ n4 rfl hv4' v5 n5 rfl hv5 (by omega) (fun g hg h => by have := (hlt4 g h.symm).2; omega) (by omega) (by omega) ?_
         intro v6 w6 hv6 hb6 _ _
         go_simp
         (refine segw (D := OnB (bx + 1) w2) (hb25.trans hb6) ?_; unfold wpMix; simp only [pick, j1, j2, j3, j4]; (repeat (show wpQuiet _ _ _ _ (_ :: _) _; go_big_quiet_step (fail))); refine qn ?_; go_wp2_with fail)
         go_round
         case rel => exact ⟨k + 1, n4 + n5, by omega, by first | rfl | rw [HWK.out], hv6.base_ (by omega), by omega, by omega, all_take_snoc HALL'.out HLK.out HE.out, hbl2.trans ((hb25.trans hb6).mono (by omega)), jh (by have q1 := HM.out; have q2 := HLT.out; omega)⟩
         case measure => first | (simp [intOf]; omega) | (rw [HWK.out]; simp [intOf]; omega)
      ·have hkn : k = s.keys.length := by omega
       subst hkn
       go_wp2_with fail
       go_ret
       refine ⟨?_, hw1.trans (hbl'.mono (by omega))⟩
       have h1 := HALL.out
       have h2 := HALL'.out
       rw [List.take_length] at h1 h2
       rw [show streamB s = true from by unfold streamB; rw [HQ.out, h1, h2]; rfl]
       have q1 := HM.out
       rw [List.take_length] at q1
       have q2 := HN3.out
       have q3 := HN1.out
       have q : lenS s = lenS0 s + lensE s.events + vlen s.keys.length + lensK s.keys := rfl
       exact GotEnc.yes ⟨_, m, rfl, hv.base_ (by omega), by omega, by omega⟩
theorem encodeS_any (s : Stream) (A A' : Option Addr) (c c' : Nat) (P : Nat → Prop) (w : World) (hn : sfit s.name) (hr : EventR.Row w P A s.events) (hr' : KnownR.Row w P A' s.keys) (hl : s.events.length ≤ 40000) (hl' : s.keys.length ≤ 40000) (hT : Tabs w) (h2 : 2 ≤ w.heap.size) :
 Calls Tryz.prog 137 #[.agg #[.string s.name, .slice A s.events.length c, .slice A' s.keys.length c']] w fun en w' => GotEnc (streamB s) w.heap.size 1 (300 + 1300 * s.events.length + 250 * s.keys.length) en w' ∧ Below w.heap.size w w' :=
 (encodeS_ex s A A' c c' P w hn hr hr' hl hl' hT h2).mono fun _ _ h => ⟨h.1.wide (fun q => (lenS_bd q).1) (fun q => (lenS_bd q).2), h.2⟩
end Go.Proofs.YtcmjgghkmdbphaaGreatDoor
