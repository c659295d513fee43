/- event.EncodeEvent: an event as bytes. event.EncodeEvent, where the event may be. event.known, event.EncodeStream: a stream as bytes. -/
import Derived.Test.YtcmjgghkmdbphaaGreatDoorT05
set_option maxRecDepth 20000
set_option maxHeartbeats 25600000
namespace Go.Proofs.YtcmjgghkmdbphaaGreatDoor
open Go.RowKit
def eventB (e : Event) : Bool := nameB e.stream && (decide (1 ≤ e.version) && (decide (e.version ≤ 1099511627776) && (decide (e.data.size ≤ 1000) && (validB e.data && (soundB e.stamp && (decide (0 ≤ e.index) && decide (e.index ≤ 160)))))))
theorem eventB_iff {e : Event} : eventB e = true ↔ nameB e.stream = true ∧ 1 ≤ e.version ∧ e.version ≤ 1099511627776 ∧ e.data.size ≤ 1000 ∧ validB e.data = true ∧ soundB e.stamp = true ∧ 0 ≤ e.index ∧ e.index ≤ 160 := by
 simp only [eventB, Bool.and_eq_true, decide_eq_true_eq]
def Event.val (e : Event) : Value := .agg #[.string e.stream, .int .i64 e.version, .string e.data, .int .i64 e.stamp.wall, .int .i64 e.stamp.logic, .int .i64 e.stamp.node, .int .i64 e.index]
theorem encodeE_bad (e : Event) (w : World) (hf : e.fit) (hT : Tabs w) (_h2 : 2 ≤ w.heap.size) (hbb : eventB e = false) :
 Calls Tryz.prog 232 #[e.val] w fun en w' => GotEnc (eventB e) w.heap.size 1 1300 en w' ∧ Below w.heap.size w w' := by
 obtain ⟨hf1, hf2, hf3, hf4, hf5⟩ := hf
 have CN := nameF e.stream (w.alloc (.cells e.cells.toArray 202)) hf1 (hT.below ((jb _ _).al _))
 have CV := fun W (h : Below w.heap.size w W) => valid_any e.data W hf3 (hT.below h)
 have CS := fun W => sound_any e.stamp W
 have CE := fun W => encode_any e.stamp W
 have HF5 := jh hf5
 have HF2 := jh hf2
 clear hf4 hf5 hf2 hf1
 unfold Event.val
 unfold Stamp.val at CS CE
 unfold Event.cells at CN
 have hcase : nameB e.stream = false ∨ (nameB e.stream = true ∧ e.version < 1) ∨ (nameB e.stream = true ∧ ¬ e.version < 1 ∧ 1099511627776 < e.version) ∨
  (nameB e.stream = true ∧ ¬ e.version < 1 ∧ ¬ 1099511627776 < e.version ∧ (1000 : Int) < e.data.size) ∨
  (nameB e.stream = true ∧ ¬ e.version < 1 ∧ ¬ 1099511627776 < e.version ∧ ¬ (1000 : Int) < e.data.size ∧ validB e.data = false) ∨
  (nameB e.stream = true ∧ ¬ e.version < 1 ∧ ¬ 1099511627776 < e.version ∧ ¬ (1000 : Int) < e.data.size ∧ validB e.data = true ∧ soundB e.stamp = false) ∨
  (nameB e.stream = true ∧ ¬ e.version < 1 ∧ ¬ 1099511627776 < e.version ∧ ¬ (1000 : Int) < e.data.size ∧ validB e.data = true ∧ soundB e.stamp = true ∧ e.index < 0) ∨
  (nameB e.stream = true ∧ ¬ e.version < 1 ∧ ¬ 1099511627776 < e.version ∧ ¬ (1000 : Int) < e.data.size ∧ validB e.data = true ∧ soundB e.stamp = true ∧ ¬ e.index < 0 ∧ 160 < e.index) ∨
  (nameB e.stream = true ∧ ¬ e.version < 1 ∧ ¬ 1099511627776 < e.version ∧ ¬ (1000 : Int) < e.data.size ∧ validB e.data = true ∧ soundB e.stamp = true ∧ ¬ e.index < 0 ∧ ¬ 160 < e.index) := by
  cases h1 : nameB e.stream
  ·exact Or.inl rfl
  ·by_cases e.version < 1 <;> by_cases 1099511627776 < e.version <;> by_cases (1000 : Int) < e.data.size <;> cases validB e.data <;> cases soundB e.stamp <;> by_cases e.index < 0 <;> by_cases 160 < e.index <;> simp only [*, true_and, and_true, false_or, or_false, not_true_eq_false, not_false_eq_true, or_true, true_or, false_and, and_false]
 have FX : ∀ W, Below w.heap.size w W → Below (w.heap.size + 1) (w.alloc (.cells #[.string e.stream, .int .i64 e.version, .string e.data, .int .i64 e.stamp.wall, .int .i64 e.stamp.logic, .int .i64 e.stamp.node, .int .i64 e.index] 202)) W →
  W.cell? ⟨w.heap.size, 0, none⟩ = some (.string e.stream) ∧ W.cell? ⟨w.heap.size, 1, none⟩ = some (.int .i64 e.version) ∧ W.cell? ⟨w.heap.size, 2, none⟩ = some (.string e.data) ∧ W.cell? ⟨w.heap.size, 3, none⟩ = some (.int .i64 e.stamp.wall) ∧ W.cell? ⟨w.heap.size, 4, none⟩ = some (.int .i64 e.stamp.logic) ∧ W.cell? ⟨w.heap.size, 5, none⟩ = some (.int .i64 e.stamp.node) ∧ W.cell? ⟨w.heap.size, 6, none⟩ = some (.int .i64 e.index) := fun W _ h => by
  have B := (Blk.new w 202 e.cells)
  have K : ∀ (i : Nat) (v : Value), (w.alloc (.cells e.cells.toArray 202)).cell? ⟨w.heap.size, i, none⟩ = some v → W.cell? ⟨w.heap.size, i, none⟩ = some v := fun i v hv => (Below.cell h (p := ⟨w.heap.size, i, none⟩) (Nat.lt_succ_self _)).trans hv
  exact ⟨K 0 _ (B.cell 0), K 1 _ (B.cell 1), K 2 _ (B.cell 2), K 3 _ (B.cell 3), K 4 _ (B.cell 4), K 5 _ (B.cell 5), K 6 _ (B.cell 6)⟩
 have hcut0 : ∀ W, Below (w.alloc (.cells #[.string e.stream, .int .i64 e.version, .string e.data, .int .i64 e.stamp.wall, .int .i64 e.stamp.logic, .int .i64 e.stamp.node, .int .i64 e.index] 202)).heap.size (w.alloc (.cells #[.string e.stream, .int .i64 e.version, .string e.data, .int .i64 e.stamp.wall, .int .i64 e.stamp.logic, .int .i64 e.stamp.node, .int .i64 e.index] 202)) W →
  Below w.heap.size w W ∧ Below (w.heap.size + 1) (w.alloc (.cells #[.string e.stream, .int .i64 e.version, .string e.data, .int .i64 e.stamp.wall, .int .i64 e.stamp.logic, .int .i64 e.stamp.node, .int .i64 e.index] 202)) W := fun W h => ⟨((jb _ _).al _).tr h, h.mono (by simp)⟩
 have HFX := jh FX
 have HCUT := jh hcut0
 clear FX hcut0
 rcases hcase with g | g | g | g | g | g | g | g | g
 ·have gn : nameB e.stream = false := g
  have HG := jh g
  clear g
  go_enter Tryz.func232, Tryz.ntmps232
  go_wp2_with fail
  refine CN.mono ?_
  clear CN
  rintro en w1 ⟨rfl, hb1⟩
  rw [gn]
  obtain ⟨hw1, hx1⟩ := HCUT.out w1 hb1
  have hz1 := hb1.size
  simp only [World.size_alloc] at hz1
  clear hb1
  obtain ⟨y0, y1, y2, y3, y4, y5, y6⟩ := HFX.out w1 hw1 hx1
  go_wp2_with fail
  go_ret
  refine ⟨?_, hw1⟩
  have hbad : eventB e = false := Bool.eq_false_iff.2 fun h => by
   have h := eventB_iff.1 h
   rw [HG.out] at h; exact absurd h.1 (by simp)
  rw [hbad]
  exact GotEnc.no rfl
 ·have gn : nameB e.stream = true := g.1
  (have g1 : e.version < 1 := g.2)
  have HG := jh g
  clear g
  go_enter Tryz.func232, Tryz.ntmps232
  go_wp2_with fail
  refine CN.mono ?_
  clear CN
  rintro en w1 ⟨rfl, hb1⟩
  rw [gn]
  obtain ⟨hw1, hx1⟩ := HCUT.out w1 hb1
  have hz1 := hb1.size
  simp only [World.size_alloc] at hz1
  clear hb1
  obtain ⟨y0, y1, y2, y3, y4, y5, y6⟩ := HFX.out w1 hw1 hx1
  go_wp2_with fail
  go_ret
  refine ⟨?_, hw1⟩
  have hbad : eventB e = false := Bool.eq_false_iff.2 fun h => by
   have h := eventB_iff.1 h
   have := HG.out.2; omega
  rw [hbad]
  exact GotEnc.no rfl
 ·have gn : nameB e.stream = true := g.1
  (have g1 : decide (e.version < 1) = false := jd (by have := g.2; omega))
  (have g2 : 1099511627776 < e.version := g.2.2)
  have HG := jh g
  clear g
  go_enter Tryz.func232, Tryz.ntmps232
  go_wp2_with fail
  refine CN.mono ?_
  clear CN
  rintro en w1 ⟨rfl, hb1⟩
  rw [gn]
  obtain ⟨hw1, hx1⟩ := HCUT.out w1 hb1
  have hz1 := hb1.size
  simp only [World.size_alloc] at hz1
  clear hb1
  obtain ⟨y0, y1, y2, y3, y4, y5, y6⟩ := HFX.out w1 hw1 hx1
  go_wp2_with fail
  go_ret
  refine ⟨?_, hw1⟩
  have hbad : eventB e = false := Bool.eq_false_iff.2 fun h => by
   have h := eventB_iff.1 h
   have := HG.out.2; omega
  rw [hbad]
  exact GotEnc.no rfl
 ·have gn : nameB e.stream = true := g.1
  (have g1 : decide (e.version < 1) = false := jd (by have := g.2; omega))
  (have g2 : decide (1099511627776 < e.version) = false := jd (by have := g.2; omega))
  (have g3 : (1000 : Int) < e.data.size := g.2.2.2)
  have HG := jh g
  clear g
  go_enter Tryz.func232, Tryz.ntmps232
  go_wp2_with fail
  refine CN.mono ?_
  clear CN
  rintro en w1 ⟨rfl, hb1⟩
  rw [gn]
  obtain ⟨hw1, hx1⟩ := HCUT.out w1 hb1
  have hz1 := hb1.size
  simp only [World.size_alloc] at hz1
  clear hb1
  obtain ⟨y0, y1, y2, y3, y4, y5, y6⟩ := HFX.out w1 hw1 hx1
  go_wp2_with fail
  go_ret
  refine ⟨?_, hw1⟩
  have hbad : eventB e = false := Bool.eq_false_iff.2 fun h => by
   have h := eventB_iff.1 h
   have := HG.out.2; omega
  rw [hbad]
  exact GotEnc.no rfl
 ·have gn : nameB e.stream = true := g.1
  (have g1 : decide (e.version < 1) = false := jd (by have := g.2; omega))
  (have g2 : decide (1099511627776 < e.version) = false := jd (by have := g.2; omega))
  (have g3 : decide ((1000 : Int) < e.data.size) = false := jd (by have := g.2; omega))
  have gv : validB e.data = false := g.2.2.2.2
  have HG := jh g
  clear g
  go_enter Tryz.func232, Tryz.ntmps232
  go_wp2_with fail
  refine CN.mono ?_
  clear CN
  rintro en w1 ⟨rfl, hb1⟩
  rw [gn]
  obtain ⟨hw1, hx1⟩ := HCUT.out w1 hb1
  have hz1 := hb1.size
  simp only [World.size_alloc] at hz1
  clear hb1
  obtain ⟨y0, y1, y2, y3, y4, y5, y6⟩ := HFX.out w1 hw1 hx1
  go_wp2_with fail
  refine (CV w1 hw1).mono ?_
  clear CV y0 y1 y2 y3 y4 y5 y6
  rintro en w2 ⟨rfl, hb2⟩
  rw [gv]
  have hw2 := hw1.tr hb2
  have hx2 := hx1.trans (hb2.mono hz1)
  have hz2 := hb2.size
  clear hb2
  obtain ⟨y0, y1, y2, y3, y4, y5, y6⟩ := HFX.out w2 hw2 hx2
  go_wp2_with fail
  go_ret
  refine ⟨?_, hw2⟩
  have hbad : eventB e = false := Bool.eq_false_iff.2 fun h => by
   have h := eventB_iff.1 h
   rw [gv] at h; exact absurd h.2.2.2.2.1 (by simp)
  rw [hbad]
  exact GotEnc.no rfl
 ·have gn : nameB e.stream = true := g.1
  (have g1 : decide (e.version < 1) = false := jd (by have := g.2; omega))
  (have g2 : decide (1099511627776 < e.version) = false := jd (by have := g.2; omega))
  (have g3 : decide ((1000 : Int) < e.data.size) = false := jd (by have := g.2; omega))
  have gv : validB e.data = true := g.2.2.2.2.1
  have gs : soundB e.stamp = false := g.2.2.2.2.2
  have HG := jh g
  clear g
  go_enter Tryz.func232, Tryz.ntmps232
  go_wp2_with fail
  refine CN.mono ?_
  clear CN
  rintro en w1 ⟨rfl, hb1⟩
  rw [gn]
  obtain ⟨hw1, hx1⟩ := HCUT.out w1 hb1
  have hz1 := hb1.size
  simp only [World.size_alloc] at hz1
  clear hb1
  obtain ⟨y0, y1, y2, y3, y4, y5, y6⟩ := HFX.out w1 hw1 hx1
  go_wp2_with fail
  refine (CV w1 hw1).mono ?_
  clear CV y0 y1 y2 y3 y4 y5 y6
  rintro en w2 ⟨rfl, hb2⟩
  rw [gv]
  have hw2 := hw1.tr hb2
  have hx2 := hx1.trans (hb2.mono hz1)
  have hz2 := hb2.size
  clear hb2
  obtain ⟨y0, y1, y2, y3, y4, y5, y6⟩ := HFX.out w2 hw2 hx2
  go_wp2_with fail
  refine (CS w2).mono ?_
  clear CS y0 y1 y2 y3 y4 y5 y6
  rintro en w3 ⟨rfl, hb3⟩
  rw [gs]
  have hw3 := hw2.tr hb3
  have hx3 := hx2.trans (hb3.mono (by omega))
  have hz3 := hb3.size
  clear hb3
  obtain ⟨y0, y1, y2, y3, y4, y5, y6⟩ := HFX.out w3 hw3 hx3
  go_wp2_with fail
  go_ret
  refine ⟨?_, hw3⟩
  have hbad : eventB e = false := Bool.eq_false_iff.2 fun h => by
   have h := eventB_iff.1 h
   rw [gs] at h; exact absurd h.2.2.2.2.2.1 (by simp)
  rw [hbad]
  exact GotEnc.no rfl
 ·have gn : nameB e.stream = true := g.1
  (have g1 : decide (e.version < 1) = false := jd (by have := g.2; omega))
  (have g2 : decide (1099511627776 < e.version) = false := jd (by have := g.2; omega))
  (have g3 : decide ((1000 : Int) < e.data.size) = false := jd (by have := g.2; omega))
  have gv : validB e.data = true := g.2.2.2.2.1
  have gs : soundB e.stamp = true := g.2.2.2.2.2.1
  (have g7 : e.index < 0 := g.2.2.2.2.2.2)
  have HG := jh g
  clear g
  go_enter Tryz.func232, Tryz.ntmps232
  go_wp2_with fail
  refine CN.mono ?_
  clear CN
  rintro en w1 ⟨rfl, hb1⟩
  rw [gn]
  obtain ⟨hw1, hx1⟩ := HCUT.out w1 hb1
  have hz1 := hb1.size
  simp only [World.size_alloc] at hz1
  clear hb1
  obtain ⟨y0, y1, y2, y3, y4, y5, y6⟩ := HFX.out w1 hw1 hx1
  go_wp2_with fail
  refine (CV w1 hw1).mono ?_
  clear CV y0 y1 y2 y3 y4 y5 y6
  rintro en w2 ⟨rfl, hb2⟩
  rw [gv]
  have hw2 := hw1.tr hb2
  have hx2 := hx1.trans (hb2.mono hz1)
  have hz2 := hb2.size
  clear hb2
  obtain ⟨y0, y1, y2, y3, y4, y5, y6⟩ := HFX.out w2 hw2 hx2
  go_wp2_with fail
  refine (CS w2).mono ?_
  clear CS y0 y1 y2 y3 y4 y5 y6
  rintro en w3 ⟨rfl, hb3⟩
  rw [gs]
  have hw3 := hw2.tr hb3
  have hx3 := hx2.trans (hb3.mono (by omega))
  have hz3 := hb3.size
  clear hb3
  obtain ⟨y0, y1, y2, y3, y4, y5, y6⟩ := HFX.out w3 hw3 hx3
  go_wp2_with fail
  go_ret
  refine ⟨?_, hw3⟩
  have hbad : eventB e = false := Bool.eq_false_iff.2 fun h => by
   have h := eventB_iff.1 h
   have := HG.out.2; omega
  rw [hbad]
  exact GotEnc.no rfl
 ·have gn : nameB e.stream = true := g.1
  (have g1 : decide (e.version < 1) = false := jd (by have := g.2; omega))
  (have g2 : decide (1099511627776 < e.version) = false := jd (by have := g.2; omega))
  (have g3 : decide ((1000 : Int) < e.data.size) = false := jd (by have := g.2; omega))
  have gv : validB e.data = true := g.2.2.2.2.1
  have gs : soundB e.stamp = true := g.2.2.2.2.2.1
  (have g7 : decide (e.index < 0) = false := jd (by have := g.2; omega))
  (have g8 : 160 < e.index := g.2.2.2.2.2.2.2)
  have HG := jh g
  clear g
  go_enter Tryz.func232, Tryz.ntmps232
  go_wp2_with fail
  refine CN.mono ?_
  clear CN
  rintro en w1 ⟨rfl, hb1⟩
  rw [gn]
  obtain ⟨hw1, hx1⟩ := HCUT.out w1 hb1
  have hz1 := hb1.size
  simp only [World.size_alloc] at hz1
  clear hb1
  obtain ⟨y0, y1, y2, y3, y4, y5, y6⟩ := HFX.out w1 hw1 hx1
  go_wp2_with fail
  refine (CV w1 hw1).mono ?_
  clear CV y0 y1 y2 y3 y4 y5 y6
  rintro en w2 ⟨rfl, hb2⟩
  rw [gv]
  have hw2 := hw1.tr hb2
  have hx2 := hx1.trans (hb2.mono hz1)
  have hz2 := hb2.size
  clear hb2
  obtain ⟨y0, y1, y2, y3, y4, y5, y6⟩ := HFX.out w2 hw2 hx2
  go_wp2_with fail
  refine (CS w2).mono ?_
  clear CS y0 y1 y2 y3 y4 y5 y6
  rintro en w3 ⟨rfl, hb3⟩
  rw [gs]
  have hw3 := hw2.tr hb3
  have hx3 := hx2.trans (hb3.mono (by omega))
  have hz3 := hb3.size
  clear hb3
  obtain ⟨y0, y1, y2, y3, y4, y5, y6⟩ := HFX.out w3 hw3 hx3
  go_wp2_with fail
  go_ret
  refine ⟨?_, hw3⟩
  have hbad : eventB e = false := Bool.eq_false_iff.2 fun h => by
   have h := eventB_iff.1 h
   have := HG.out.2; omega
  rw [hbad]
  exact GotEnc.no rfl
 ·exfalso
  rw [eventB_iff.2 ⟨g.1, by have := g.2; omega, by have := g.2; omega, by have := g.2; omega, g.2.2.2.2.1, g.2.2.2.2.2.1, by have := g.2; omega, by have := g.2; omega⟩] at hbb
  cases hbb
end Go.Proofs.YtcmjgghkmdbphaaGreatDoor
namespace Go.Proofs.YtcmjgghkmdbphaaGreatDoor
open Go.RowKit
def lenE0 (e : Event) : Nat := (vlen e.stream.size + e.stream.size) + vlen e.version + (vlen e.data.size + e.data.size)
def lenE (e : Event) : Nat := lenE0 e + lenT e.stamp + vlen e.index
theorem lenE_bd {e : Event} (h : eventB e = true) : 1 ≤ lenE e ∧ lenE e ≤ 1300 ∧ e.data.size ≤ lenE e := by
 have h1 := eventB_iff.1 h
 have h2 := nameB_short h1.1
 have b1 := vlen_bd e.stream.size
 have b2 := vlen_bd e.version
 have b3 := vlen_bd e.data.size
 have b4 := lenT_bd e.stamp
 have b5 := vlen_bd e.index
 unfold lenE lenE0; omega
theorem encodeE_good (e : Event) (w : World) (hf : e.fit) (hT : Tabs w) (_h2 : 2 ≤ w.heap.size) (hgg : eventB e = true) :
 Calls Tryz.prog 232 #[e.val] w fun en w' => GotEnc (eventB e) w.heap.size (lenE e) (lenE e) en w' ∧ Below w.heap.size w w' := by
 obtain ⟨hf1, hf2, hf3, hf4, hf5⟩ := hf
 have CN := nameF e.stream (w.alloc (.cells e.cells.toArray 202)) hf1 (hT.below ((jb _ _).al _))
 have CV := fun W (h : Below w.heap.size w W) => valid_any e.data W hf3 (hT.below h)
 have CS := fun W => sound_any e.stamp W
 have CE := fun W => encode_ex e.stamp W
 have HF5 := jh hf5
 have HF2 := jh hf2
 clear hf4 hf5 hf2 hf1
 unfold Event.val
 unfold Stamp.val at CS CE
 unfold Event.cells at CN
 have g : nameB e.stream = true ∧ ¬ e.version < 1 ∧ ¬ 1099511627776 < e.version ∧ ¬ (1000 : Int) < e.data.size ∧ validB e.data = true ∧ soundB e.stamp = true ∧ ¬ e.index < 0 ∧ ¬ 160 < e.index := by
  have h := eventB_iff.1 hgg
  exact ⟨h.1, by omega, by omega, by omega, h.2.2.2.2.1, h.2.2.2.2.2.1, by omega, by omega⟩
 clear hgg
 have FX : ∀ W, Below w.heap.size w W → Below (w.heap.size + 1) (w.alloc (.cells #[.string e.stream, .int .i64 e.version, .string e.data, .int .i64 e.stamp.wall, .int .i64 e.stamp.logic, .int .i64 e.stamp.node, .int .i64 e.index] 202)) W →
  W.cell? ⟨w.heap.size, 0, none⟩ = some (.string e.stream) ∧ W.cell? ⟨w.heap.size, 1, none⟩ = some (.int .i64 e.version) ∧ W.cell? ⟨w.heap.size, 2, none⟩ = some (.string e.data) ∧ W.cell? ⟨w.heap.size, 3, none⟩ = some (.int .i64 e.stamp.wall) ∧ W.cell? ⟨w.heap.size, 4, none⟩ = some (.int .i64 e.stamp.logic) ∧ W.cell? ⟨w.heap.size, 5, none⟩ = some (.int .i64 e.stamp.node) ∧ W.cell? ⟨w.heap.size, 6, none⟩ = some (.int .i64 e.index) := fun W _ h => by
  have B := (Blk.new w 202 e.cells)
  have K : ∀ (i : Nat) (v : Value), (w.alloc (.cells e.cells.toArray 202)).cell? ⟨w.heap.size, i, none⟩ = some v → W.cell? ⟨w.heap.size, i, none⟩ = some v := fun i v hv => (Below.cell h (p := ⟨w.heap.size, i, none⟩) (Nat.lt_succ_self _)).trans hv
  exact ⟨K 0 _ (B.cell 0), K 1 _ (B.cell 1), K 2 _ (B.cell 2), K 3 _ (B.cell 3), K 4 _ (B.cell 4), K 5 _ (B.cell 5), K 6 _ (B.cell 6)⟩
 have hcut0 : ∀ W, Below (w.alloc (.cells #[.string e.stream, .int .i64 e.version, .string e.data, .int .i64 e.stamp.wall, .int .i64 e.stamp.logic, .int .i64 e.stamp.node, .int .i64 e.index] 202)).heap.size (w.alloc (.cells #[.string e.stream, .int .i64 e.version, .string e.data, .int .i64 e.stamp.wall, .int .i64 e.stamp.logic, .int .i64 e.stamp.node, .int .i64 e.index] 202)) W →
  Below w.heap.size w W ∧ Below (w.heap.size + 1) (w.alloc (.cells #[.string e.stream, .int .i64 e.version, .string e.data, .int .i64 e.stamp.wall, .int .i64 e.stamp.logic, .int .i64 e.stamp.node, .int .i64 e.index] 202)) W := fun W h => ⟨((jb _ _).al _).tr h, h.mono (by simp)⟩
 have HFX := jh FX
 have HCUT := jh hcut0
 clear FX hcut0
 have gn : nameB e.stream = true := g.1
 (have g1 : decide (e.version < 1) = false := jd (by have := g.2; omega))
 (have g2 : decide (1099511627776 < e.version) = false := jd (by have := g.2; omega))
 (have g3 : decide ((1000 : Int) < e.data.size) = false := jd (by have := g.2; omega))
 have gv : validB e.data = true := g.2.2.2.2.1
 have gs : soundB e.stamp = true := g.2.2.2.2.2.1
 (have g7 : decide (e.index < 0) = false := jd (by have := g.2; omega))
 (have g8 : decide (160 < e.index) = false := jd (by have := g.2; omega))
 have HG := jh g
 clear g
 go_enter Tryz.func232, Tryz.ntmps232
 go_wp2_with fail
 refine CN.mono ?_
 clear CN
 rintro en w1 ⟨rfl, hb1⟩
 rw [gn]
 obtain ⟨hw1, hx1⟩ := HCUT.out w1 hb1
 have hz1 := hb1.size
 simp only [World.size_alloc] at hz1
 clear hb1
 obtain ⟨y0, y1, y2, y3, y4, y5, y6⟩ := HFX.out w1 hw1 hx1
 go_wp2_with fail
 refine (CV w1 hw1).mono ?_
 clear CV y0 y1 y2 y3 y4 y5 y6
 rintro en w2 ⟨rfl, hb2⟩
 rw [gv]
 have hw2 := hw1.tr hb2
 have hx2 := hx1.trans (hb2.mono hz1)
 have hz2 := hb2.size
 clear hb2
 obtain ⟨y0, y1, y2, y3, y4, y5, y6⟩ := HFX.out w2 hw2 hx2
 go_wp2_with fail
 refine (CS w2).mono ?_
 clear CS y0 y1 y2 y3 y4 y5 y6
 rintro en w3 ⟨rfl, hb3⟩
 rw [gs]
 have hw3 := hw2.tr hb3
 have hx3 := hx2.trans (hb3.mono (by omega))
 have hz3 := hb3.size
 clear hb3
 obtain ⟨y0, y1, y2, y3, y4, y5, y6⟩ := HFX.out w3 hw3 hx3
 go_wp2_with fail
 have HGD : Hid (eventB e = true ∧ e.stream.size ≤ 160 ∧ e.data.size ≤ 1000) := jh ⟨eventB_iff.2 ⟨gn, by have := HG.out.2; omega, by have := HG.out.2; omega, by have := HG.out.2; omega, gv, gs, by have := HG.out.2; omega, by have := HG.out.2; omega⟩, nameB_short gn, by have := HG.out.2; omega⟩
 have HS := jh gs
 have HV : Hid (1 ≤ e.version ∧ e.version ≤ 1099511627776 ∧ 0 ≤ e.index ∧ e.index ≤ 160) := jh (by have := HG.out.2; omega)
 clear HG gn gv gs g1 g2 g3 g7 g8
 have x0 := OnB.cell (B := w.heap.size + 1) (W := w3) (by omega) y0
 have x1 := OnB.cell (B := w.heap.size + 1) (W := w3) (by omega) y1
 have x2 := OnB.cell (B := w.heap.size + 1) (W := w3) (by omega) y2
 have hdr : w3.drew.heap.size = w3.heap.size := rfl
 clear y0 y1 y2 y3 y4 y5 y6
 have hz : w.heap.size + 1 ≤ w3.heap.size := by omega
 have hvr := HV.out
 have HBV := jh (ja (vlen_bd e.stream.size) (ja (vlen_bd e.version) (ja (vlen_bd e.data.size) (ja (lenT_bd e.stamp) (vlen_bd e.index)))))
 go_cut [3] from 46 to 56 (fun v wx => ∃ n, Bts wx (w.heap.size + 1) v n ∧ 1 ≤ n ∧ n ≤ 1200 ∧ Below (w.heap.size + 1) w3 wx ∧ Hid (n = lenE0 e))
 case first =>
  refine wp_region_mix (.fork [0, 1, 3, 4, 5, 8, 9] 2 (.seg [] 6 (.seg [] 7 (.seg [] 10 (.leaf [11])))) 6 (.seg [] 2 (.seg [] 7 (.seg [] 10 (.leaf [11]))))) (fun w' => ∃ d : Wd (OnB (w.heap.size + 1) w3), w' = d.w) (by kernel_rfl) (by kernel_rfl) (fun _ _ d _ _ h => by cases d <;> exact h) (ClsW.mk (jb _ _).drew) ?_
  unfold wpMix; simp only [pick, j1, j2, j3, j4]
  (repeat (show wpQuiet _ _ _ _ (_ :: _) _; go_big_quiet_step (fail))); refine qn ?_
  constructor
  ·go_wp2_with fail
   refine (text_ex _ 0 0 e.stream _ (Bts.nil_ _ _) (by have := HGD.out; have := HBV.out; omega)).mono ?_
   rintro en wa ⟨⟨v2, n2, rfl, hv2, hn2, hn2'⟩, hb2'⟩
   have hb2 : Below w3.heap.size w3 wa := (jb _ w3).drew.tr hb2'
   clear hb2'
   go_wp2_with fail
   (refine segw (D := OnB (w.heap.size + 1) w3) (hb2.mono (by omega)) ?_; unfold wpMix; simp only [pick, j1, j2, j3, j4]; (repeat (show wpQuiet _ _ _ _ (_ :: _) _; go_big_quiet_step (fail))); refine qn ?_; go_wp2_with fail)
   (refine segw (D := OnB (w.heap.size + 1) w3) ((hb2.mono (by omega)).alloc (by have := hb2.size; omega) _) ?_; unfold wpMix; simp only [pick, j1, j2, j3, j4]; (repeat (show wpQuiet _ _ _ _ (_ :: _) _; go_big_quiet_step (fail))); refine qn ?_; go_wp2_with fail)
   have hne : some wa.heap.size ≠ v2.ownBlock := fun h => by have := (hv2.lt _ h.symm).2; omega
   have hnums := (nums1_ex v2 n2 (w.heap.size + 1) wa.heap.size 303 e.version _ ((hv2.base_ hz).ext ((jb _ _).al _)) (Blk.new wa _ _) ⟨by omega, by simp only [limV]; omega⟩ (by have := HGD.out; have := HBV.out; omega) (by have := hb2.size; simp; omega) hne)
   refine hnums.mono ?_
   clear hnums
   rintro en wb ⟨⟨v3, n3, rfl, hv3, hn3, hn3', _⟩, ho3⟩
   have hb3 : Below (w.heap.size + 1) w3 wb := ((hb2.mono hz).alloc (by have := hb2.size; omega) _).trans (ho3.low (fun g hg => by have := (hv2.lt g hg).1; omega) (by have := hb2.size; simp; omega))
   go_wp2_with fail
   (refine segw (D := OnB (w.heap.size + 1) w3) (hb3) ?_; unfold wpMix; simp only [pick, j1, j2, j3, j4]; (repeat (show wpQuiet _ _ _ _ (_ :: _) _; go_big_quiet_step (fail))); refine qn ?_; go_wp2_with fail)
   refine (text_ex v3 n3 (w.heap.size + 1) e.data wb hv3 (by have := HGD.out; have := HBV.out; omega)).mono ?_
   rintro en wd ⟨⟨v4, n4, rfl, hv4, hn4, hn4'⟩, hb4⟩
   have hz3 := hb3.size
   go_wp2_with fail
   (refine segw (D := OnB (w.heap.size + 1) w3) (hb3.trans (hb4.mono (by omega))) ?_; unfold wpMix; simp only [pick, j1, j2, j3, j4]; (repeat (show wpQuiet _ _ _ _ (_ :: _) _; go_big_quiet_step (fail))); refine qn ?_; go_wp2_with fail)
   go_meet
   have := HBV.out
   exact ⟨n4, hv4.base_ (by omega), by omega, by have := HGD.out; omega, hb3.trans (hb4.mono (by omega)), jh (by unfold lenE0; omega)⟩
  ·go_wp2_with fail
   (refine segw (D := OnB (w.heap.size + 1) w3) ((jb _ w3).drew.alloc (by omega) _) ?_; unfold wpMix; simp only [pick, j1, j2, j3, j4]; (repeat (show wpQuiet _ _ _ _ (_ :: _) _; go_big_quiet_step (fail))); refine qn ?_; go_wp2_with fail)
   refine (text_ex _ 0 0 e.stream _ (Bts.nil_ _ _) (by have := HGD.out; have := HBV.out; omega)).mono ?_
   rintro en wa ⟨⟨v2, n2, rfl, hv2, hn2, hn2'⟩, hb2'⟩
   have hb2 := (jb (w.heap.size + 1) w3).drew.trans (((jb _ w3.drew).alloc (by omega) _).trans (hb2'.mono (by simp; omega)))
   have hg2 := (Blk.new w3.drew 303 [.int .u64 e.version]).ext hb2'
   have hz2 := hb2'.size
   have hlt2 := hv2.lt
   have hsz : ((w3.alloc (.cells #[.int .u64 e.version] 303)).drew).heap.size = w3.heap.size + 1 := by show (w3.alloc _).heap.size = _; simp
   clear hb2'
   go_wp2_with fail
   (refine segw (D := OnB (w.heap.size + 1) w3) (hb2) ?_; unfold wpMix; simp only [pick, j1, j2, j3, j4]; (repeat (show wpQuiet _ _ _ _ (_ :: _) _; go_big_quiet_step (fail))); refine qn ?_; go_wp2_with fail)
   have hne : some w3.heap.size ≠ v2.ownBlock := fun h => by have := (hlt2 _ h.symm).1; omega
   have hnums := (nums1_ex v2 n2 (w.heap.size + 1) w3.heap.size 303 e.version wa (hv2.base_ (by simp; omega)) hg2 ⟨by omega, by simp only [limV]; omega⟩ (by have := HGD.out; have := HBV.out; omega) (by omega) hne)
   refine hnums.mono ?_
   clear hnums
   rintro en wb ⟨⟨v3, n3, rfl, hv3, hn3, hn3', _⟩, ho3⟩
   have hb3 : Below (w.heap.size + 1) w3 wb := hb2.trans (ho3.low (fun g hg => by have := (hlt2 g hg).1; omega) (by omega))
   go_wp2_with fail
   (refine segw (D := OnB (w.heap.size + 1) w3) (hb3) ?_; unfold wpMix; simp only [pick, j1, j2, j3, j4]; (repeat (show wpQuiet _ _ _ _ (_ :: _) _; go_big_quiet_step (fail))); refine qn ?_; go_wp2_with fail)
   refine (text_ex v3 n3 (w.heap.size + 1) e.data wb hv3 (by have := HGD.out; have := HBV.out; omega)).mono ?_
   rintro en wd ⟨⟨v4, n4, rfl, hv4, hn4, hn4'⟩, hb4⟩
   have hz3 := hb3.size
   go_wp2_with fail
   (refine segw (D := OnB (w.heap.size + 1) w3) (hb3.trans (hb4.mono (by omega))) ?_; unfold wpMix; simp only [pick, j1, j2, j3, j4]; (repeat (show wpQuiet _ _ _ _ (_ :: _) _; go_big_quiet_step (fail))); refine qn ?_; go_wp2_with fail)
   go_meet
   have := HBV.out
   exact ⟨n4, hv4.base_ (by omega), by omega, by have := HGD.out; omega, hb3.trans (hb4.mono (by omega)), jh (by unfold lenE0; omega)⟩
 case rest =>
  obtain ⟨n0, hv0, hn0, hn0', hbc, HN0⟩ := hcut
  have hzc := hbc.size
  obtain ⟨y0, y1, y2, y3, y4, y5, y6⟩ := HFX.out wc (hw3.trans (hbc.mono (by omega))) (hx3.trans hbc)
  clear x0 x1 x2 y0 y1 y2
  have x3 := OnB.cell (B := w.heap.size + 1) (W := wc) (by omega) y3
  have x4 := OnB.cell (B := w.heap.size + 1) (W := wc) (by omega) y4
  have x5 := OnB.cell (B := w.heap.size + 1) (W := wc) (by omega) y5
  have x6 := OnB.cell (B := w.heap.size + 1) (W := wc) (by omega) y6
  clear y3 y4 y5 y6
  have hdc : wc.drew.heap.size = wc.heap.size := rfl
  have hlt0 := hv0.lt
  go_wp2_with fail
  refine wp_region_mix (.fork [0, 1, 2, 5, 6, 7] 3 (.fork [] 4 (.seg [] 8 (.seg [] 9 (.leaf [10]))) 8 (.seg [] 4 (.seg [] 9 (.leaf [10])))) 8 (.seg [] 3 (.seg [] 4 (.seg [] 9 (.leaf [10]))))) (fun w' => ∃ d : Wd (OnB (w.heap.size + 1) wc), w' = d.w) (by kernel_rfl) (by kernel_rfl) (fun _ _ d _ _ h => by cases d <;> exact h) (ClsW.mk (jb _ _).drew) ?_
  unfold wpMix; simp only [pick, j1, j2, j3, j4]
  (repeat (show wpQuiet _ _ _ _ (_ :: _) _; go_big_quiet_step (fail))); refine qn ?_
  constructor
  ·go_wp2_with fail
   refine (CE wc.drew).mono ?_
   rintro en wa ⟨hr, hb'⟩
   rw [HS.out] at hr
   obtain ⟨v2, n2, rfl, hv2, hn2, hn2'⟩ := hr.out1
   have hn3 : n2 ≤ 30 := by have := HBV.out; omega
   have hb : Below wc.heap.size wc wa := (jb _ wc).drew.tr hb'
   have hza := hb.size
   have hva := hv0.ext hb
   clear hb' hr
   go_wp2_with fail
   dsimp only [wpList, SegQ]
   refine ⟨fun w' => ∃ d : Wd (OnB (w.heap.size + 1) wc), w' = d.w, ClsW.mk (hb.mono (by omega)), fun _ h => h, ?_⟩
   unfold wpMix; simp only [pick, j1, j2, j3, j4]
   (repeat (show wpQuiet _ _ _ _ (_ :: _) _; go_big_quiet_step (fail))); refine qn ?_
   constructor
   ·refine wpList_append_bts rfl (.tmp 57) (.tmp 60) rfl (w.heap.size + 1) wc.heap.size _ n0 rfl hva v2 n2 rfl hv2 (by omega) (fun g hg h => by have := (hlt0 g h.symm).2; omega) (by omega) (by omega) ?_
    intro v3 wb hv3 hb3 _ hat3
    have hzb := hb3.size
    have hb4 := (hb.mono (B' := w.heap.size + 1) (by omega)).trans hb3
    (refine segw (D := OnB (w.heap.size + 1) wc) (hb4) ?_; unfold wpMix; simp only [pick, j1, j2, j3, j4]; (repeat (show wpQuiet _ _ _ _ (_ :: _) _; go_big_quiet_step (fail))); refine qn ?_; go_wp2_with fail)
    have HB4 := hb4.alloc (by omega) (.cells #[.int .u64 e.index] 303)
    (refine segw (D := OnB (w.heap.size + 1) wc) (HB4) ?_; unfold wpMix; simp only [pick, j1, j2, j3, j4]; (repeat (show wpQuiet _ _ _ _ (_ :: _) _; go_big_quiet_step (fail))); refine qn ?_; go_wp2_with fail)
    have hz4 : (wb.alloc (.cells #[.int .u64 e.index] 303)).heap.size = wb.heap.size + 1 := by simp
    have hne : some wb.heap.size ≠ v3.ownBlock := fun h => by have := (hv3.lt _ h.symm).2; omega
    have hnums := (nums1_ex v3 (n0 + n2) (w.heap.size + 1) wb.heap.size 303 e.index _ (hv3.ext ((jb _ _).al _)) (Blk.new wb _ _) ⟨by omega, by simp only [limV]; omega⟩ (by omega) (by omega) hne)
    refine hnums.mono ?_
    clear hnums
    rintro en wd ⟨⟨v5, n5, rfl, hv5, hn5, hn5', _⟩, ho5⟩
    have hb5 : Below (w.heap.size + 1) wc wd := HB4.trans (ho5.low (fun g hg => (hv3.lt g hg).1) (by omega))
    go_wp2_with fail
    (refine segw (D := OnB (w.heap.size + 1) wc) (hb5) ?_; unfold wpMix; simp only [pick, j1, j2, j3, j4]; (repeat (show wpQuiet _ _ _ _ (_ :: _) _; go_big_quiet_step (fail))); refine qn ?_; go_wp2_with fail)
    go_ret
    refine ⟨?_, hw3.trans ((hbc.trans hb5).mono (by omega))⟩
    rw [HGD.out.1]
    have := HN0.out
    have q : lenE e = lenE0 e + lenT e.stamp + vlen e.index := rfl
    exact GotEnc.yes ⟨_, n5, rfl, hv5.base_ (by omega), by omega, by omega⟩
   ·go_wp2_with fail
    have hba := (hb.mono (B' := w.heap.size + 1) (by omega)).alloc (by omega) (.cells #[.int .u64 e.index] 303)
    (refine segw (D := OnB (w.heap.size + 1) wc) (hba) ?_; unfold wpMix; simp only [pick, j1, j2, j3, j4]; (repeat (show wpQuiet _ _ _ _ (_ :: _) _; go_big_quiet_step (fail))); refine qn ?_)
    have hza' : (wa.alloc (.cells #[.int .u64 e.index] 303)).heap.size = wa.heap.size + 1 := by simp
    have hgb := Blk.new wa 303 [.int .u64 e.index]
    refine wpList_append_bts rfl (.tmp 57) (.tmp 60) rfl (w.heap.size + 1) wc.heap.size _ n0 rfl (hva.ext ((jb _ _).al _)) v2 n2 rfl (hv2.ext ((jb _ _).al _)) (by omega) (fun g hg h => by have := (hlt0 g h.symm).2; omega) (by omega) (by omega) ?_
    intro v3 wb hv3 hb3 hg3 hat3
    have HB4 := hba.trans hb3
    have hzb := hb3.size
    have hgb' := hgb.only (Only.grown hg3 (F := fun g => g ≠ wa.heap.size) (fun g hg e => by have := (hlt0 g hg).2; omega)) (fun h => h rfl)
    have hne : some wa.heap.size ≠ v3.ownBlock := fun h => by
     rcases hat3 with h' | h'
     ·have := (hlt0 _ (h'.symm.trans h.symm)).2; omega
     ·rw [h'] at h; injection h with h; omega
    (refine segw (D := OnB (w.heap.size + 1) wc) (HB4) ?_; unfold wpMix; simp only [pick, j1, j2, j3, j4]; (repeat (show wpQuiet _ _ _ _ (_ :: _) _; go_big_quiet_step (fail))); refine qn ?_; go_wp2_with fail)
    have hnums := (nums1_ex v3 (n0 + n2) (w.heap.size + 1) wa.heap.size 303 e.index wb hv3 hgb' ⟨by omega, by simp only [limV]; omega⟩ (by omega) (by omega) hne)
    refine hnums.mono ?_
    clear hnums
    rintro en wd ⟨⟨v5, n5, rfl, hv5, hn5, hn5', _⟩, ho5⟩
    have hb5 : Below (w.heap.size + 1) wc wd := HB4.trans (ho5.low (fun g hg => (hv3.lt g hg).1) (by omega))
    go_wp2_with fail
    (refine segw (D := OnB (w.heap.size + 1) wc) (hb5) ?_; unfold wpMix; simp only [pick, j1, j2, j3, j4]; (repeat (show wpQuiet _ _ _ _ (_ :: _) _; go_big_quiet_step (fail))); refine qn ?_; go_wp2_with fail)
    go_ret
    refine ⟨?_, hw3.trans ((hbc.trans hb5).mono (by omega))⟩
    rw [HGD.out.1]
    have := HN0.out
    have q : lenE e = lenE0 e + lenT e.stamp + vlen e.index := rfl
    exact GotEnc.yes ⟨_, n5, rfl, hv5.base_ (by omega), by omega, by omega⟩
  ·go_wp2_with fail
   have hsz : ((wc.alloc (.cells #[.int .u64 e.index] 303)).drew).heap.size = wc.heap.size + 1 := by show (wc.alloc _).heap.size = _; simp
   have hb0 := ((jb (w.heap.size + 1) wc).alloc (by omega) (.cells #[.int .u64 e.index] 303)).drew
   (refine segw (D := OnB (w.heap.size + 1) wc) (hb0) ?_; unfold wpMix; simp only [pick, j1, j2, j3, j4]; (repeat (show wpQuiet _ _ _ _ (_ :: _) _; go_big_quiet_step (fail))); refine qn ?_; go_wp2_with fail)
   refine (CE _).mono ?_
   rintro en wa ⟨hr, hb'⟩
   rw [HS.out] at hr
   obtain ⟨v2, n2, rfl, hv2, hn2, hn2'⟩ := hr.out1
   have hn3 : n2 ≤ 30 := by have := HBV.out; omega
   have hb : Below wc.heap.size wc wa := (((jb wc.heap.size wc).al _).drew).trans (hb'.mono (by omega))
   have hza := hb'.size
   have hva := hv0.ext hb
   have hgb := ((Blk.new wc 303 [.int .u64 e.index]).ext (jb _ _).drew).ext (w' := wa) hb'
   have hba := hb.mono (B' := w.heap.size + 1) (by omega)
   have hlt2 := hv2.lt
   clear hb' hr
   go_wp2_with fail
   (refine segw (D := OnB (w.heap.size + 1) wc) (hba) ?_; unfold wpMix; simp only [pick, j1, j2, j3, j4]; (repeat (show wpQuiet _ _ _ _ (_ :: _) _; go_big_quiet_step (fail))); refine qn ?_)
   refine wpList_append_bts rfl (.tmp 57) (.tmp 60) rfl (w.heap.size + 1) wc.heap.size _ n0 rfl hva v2 n2 rfl (hv2.base_ (by omega)) (by omega) (fun g hg h => by have := (hlt0 g h.symm).2; omega) (by omega) (by omega) ?_
   intro v3 wb hv3 hb3 hg3 hat3
   have HB4 := hba.trans hb3
   have hzb := hb3.size
   have hgb' := hgb.only (Only.grown hg3 (F := fun g => g ≠ wc.heap.size) (fun g hg e => by have := (hlt0 g hg).2; omega)) (fun h => h rfl)
   have hne : some wc.heap.size ≠ v3.ownBlock := fun h => by
    rcases hat3 with h' | h'
    ·have := (hlt0 _ (h'.symm.trans h.symm)).2; omega
    ·rw [h'] at h; injection h with h; omega
   (refine segw (D := OnB (w.heap.size + 1) wc) (HB4) ?_; unfold wpMix; simp only [pick, j1, j2, j3, j4]; (repeat (show wpQuiet _ _ _ _ (_ :: _) _; go_big_quiet_step (fail))); refine qn ?_; go_wp2_with fail)
   have hnums := (nums1_ex v3 (n0 + n2) (w.heap.size + 1) wc.heap.size 303 e.index wb hv3 hgb' ⟨by omega, by simp only [limV]; omega⟩ (by omega) (by omega) hne)
   refine hnums.mono ?_
   clear hnums
   rintro en wd ⟨⟨v5, n5, rfl, hv5, hn5, hn5', _⟩, ho5⟩
   have hb5 : Below (w.heap.size + 1) wc wd := HB4.trans (ho5.low (fun g hg => (hv3.lt g hg).1) (by omega))
   go_wp2_with fail
   (refine segw (D := OnB (w.heap.size + 1) wc) (hb5) ?_; unfold wpMix; simp only [pick, j1, j2, j3, j4]; (repeat (show wpQuiet _ _ _ _ (_ :: _) _; go_big_quiet_step (fail))); refine qn ?_; go_wp2_with fail)
   go_ret
   refine ⟨?_, hw3.trans ((hbc.trans hb5).mono (by omega))⟩
   rw [HGD.out.1]
   have := HN0.out
   have q : lenE e = lenE0 e + lenT e.stamp + vlen e.index := rfl
   exact GotEnc.yes ⟨_, n5, rfl, hv5.base_ (by omega), by omega, by omega⟩
theorem encodeE_ex (e : Event) (w : World) (hf : e.fit) (hT : Tabs w) (h2 : 2 ≤ w.heap.size) :
 Calls Tryz.prog 232 #[e.val] w fun en w' => GotEnc (eventB e) w.heap.size (lenE e) (lenE e) en w' ∧ Below w.heap.size w w' := by
 cases h : eventB e
 ·refine (encodeE_bad e w hf hT h2 h).mono ?_
  rintro en w' ⟨h1, h2⟩
  rw [h] at h1
  exact ⟨.no h1.out0, h2⟩
 ·have := encodeE_good e w hf hT h2 h
  rwa [h] at this
theorem encodeE_any (e : Event) (w : World) (hf : e.fit) (hT : Tabs w) (h2 : 2 ≤ w.heap.size) :
 Calls Tryz.prog 232 #[e.val] w fun en w' => GotEnc (eventB e) w.heap.size 1 1300 en w' ∧ Below w.heap.size w w' :=
 (encodeE_ex e w hf hT h2).mono fun _ _ h => ⟨h.1.wide (fun q => (lenE_bd q).1) (fun q => (lenE_bd q).2.1), h.2⟩
end Go.Proofs.YtcmjgghkmdbphaaGreatDoor
namespace Go.Proofs.YtcmjgghkmdbphaaGreatDoor
open Go.RowKit
def knownB (k : Known) : Bool := !k.key.toList.isEmpty && (keyB k.key && (decide (1 ≤ k.first) && (decide (k.first ≤ 1099511627776) && soundB k.stamp)))
theorem knownB_iff {k : Known} : knownB k = true ↔ k.key.toList.isEmpty = false ∧ keyB k.key = true ∧ 1 ≤ k.first ∧ k.first ≤ 1099511627776 ∧ soundB k.stamp = true := by
 simp only [knownB, Bool.and_eq_true, decide_eq_true_eq, Bool.not_eq_true']
def Known.val (k : Known) : Value := .agg #[.string k.key, .int .i64 k.first, .int .i64 k.stamp.wall, .int .i64 k.stamp.logic, .int .i64 k.stamp.node]
theorem known_any (k : Known) (w : World) (hf : sfit k.key) (hT : Tabs w) :
 Calls Tryz.prog 233 #[k.val] w fun en w' => en = .returned (.bool (knownB k)) ∧ Below w.heap.size w w' := by
 have CN := fun W (h : Below w.heap.size w W) => keyF k.key W hf (hT.below h)
 have CS := fun W => sound_any k.stamp W
 unfold Known.val
 unfold Stamp.val at CS
 have hcase : k.key.toList.isEmpty = true ∨ (k.key.toList.isEmpty = false ∧ keyB k.key = false) ∨ (k.key.toList.isEmpty = false ∧ keyB k.key = true ∧ ¬ 1 ≤ k.first) ∨
  (k.key.toList.isEmpty = false ∧ keyB k.key = true ∧ 1 ≤ k.first ∧ ¬ k.first ≤ 1099511627776) ∨ (k.key.toList.isEmpty = false ∧ keyB k.key = true ∧ 1 ≤ k.first ∧ k.first ≤ 1099511627776) := by
  cases k.key.toList.isEmpty <;> cases keyB k.key <;> by_cases 1 ≤ k.first <;> by_cases k.first ≤ 1099511627776 <;> simp only [*, and_true, or_false, not_true_eq_false, not_false_eq_true, or_true, and_false, Bool.false_eq_true, Bool.true_eq_false]
 have FX : ∀ W, Below (w.heap.size + 1) (w.alloc (.cells #[.string k.key, .int .i64 k.first, .int .i64 k.stamp.wall, .int .i64 k.stamp.logic, .int .i64 k.stamp.node] 49)) W →
  W.cell? ⟨w.heap.size, 0, none⟩ = some (.string k.key) ∧ W.cell? ⟨w.heap.size, 1, none⟩ = some (.int .i64 k.first) ∧ W.cell? ⟨w.heap.size, 2, none⟩ = some (.int .i64 k.stamp.wall) ∧ W.cell? ⟨w.heap.size, 3, none⟩ = some (.int .i64 k.stamp.logic) ∧ W.cell? ⟨w.heap.size, 4, none⟩ = some (.int .i64 k.stamp.node) := fun W h => by
  have B := (Blk.new w 49 k.cells)
  have K : ∀ (i : Nat) (v : Value), (w.alloc (.cells k.cells.toArray 49)).cell? ⟨w.heap.size, i, none⟩ = some v → W.cell? ⟨w.heap.size, i, none⟩ = some v := fun i v hv => (Below.cell h (p := ⟨w.heap.size, i, none⟩) (Nat.lt_succ_self _)).trans hv
  exact ⟨K 0 _ (B.cell 0), K 1 _ (B.cell 1), K 2 _ (B.cell 2), K 3 _ (B.cell 3), K 4 _ (B.cell 4)⟩
 have HCUT := jh (show ∀ W, Below (w.alloc (.cells #[.string k.key, .int .i64 k.first, .int .i64 k.stamp.wall, .int .i64 k.stamp.logic, .int .i64 k.stamp.node] 49)).heap.size (w.alloc (.cells #[.string k.key, .int .i64 k.first, .int .i64 k.stamp.wall, .int .i64 k.stamp.logic, .int .i64 k.stamp.node] 49)) W →
  Below w.heap.size w W ∧ Below (w.heap.size + 1) (w.alloc (.cells #[.string k.key, .int .i64 k.first, .int .i64 k.stamp.wall, .int .i64 k.stamp.logic, .int .i64 k.stamp.node] 49)) W from fun W h => ⟨((jb _ _).al _).tr h, h.mono (by simp)⟩)
 have HFX := jh FX
 clear FX
 rcases hcase with g | g | g | g | g
 ·have gn : (!k.key.toList.isEmpty) = false := by rw [g]; rfl
  have HG := jh g
  clear g
  go_enter Tryz.func233, Tryz.ntmps233
  go_wp2_with fail
  go_ret
  have hbad : knownB k = false := Bool.eq_false_iff.2 fun h => by
   have h := knownB_iff.1 h
   rw [HG.out] at h; exact absurd h.1 (by simp)
  exact ⟨ret_bool hbad.symm, (((jb _ _).al _))⟩
 ·have gn : (!k.key.toList.isEmpty) = true := by rw [g.1]; rfl
  have gk : keyB k.key = false := g.2
  have HG := jh g
  clear g
  go_enter Tryz.func233, Tryz.ntmps233
  go_wp2_with fail
  refine (CN _ ((jb _ _).al _)).mono ?_
  rintro en w1 ⟨rfl, hb1⟩
  rw [gk]
  obtain ⟨hw1, hx1⟩ := HCUT.out w1 hb1
  have hz1 := hb1.size
  simp only [World.size_alloc] at hz1
  clear hb1
  obtain ⟨y0, y1, y2, y3, y4⟩ := HFX.out w1 hx1
  go_wp2_with fail
  go_ret
  have hbad : knownB k = false := Bool.eq_false_iff.2 fun h => by
   have h := knownB_iff.1 h
   rw [HG.out.2] at h; exact absurd h.2.1 (by simp)
  exact ⟨ret_bool hbad.symm, hw1⟩
 ·have gn : (!k.key.toList.isEmpty) = true := by rw [g.1]; rfl
  have gk : keyB k.key = true := g.2.1
  have g1 : decide ((1 : Int) ≤ k.first) = false := jd g.2.2
  have HG := jh g
  clear g
  go_enter Tryz.func233, Tryz.ntmps233
  go_wp2_with fail
  refine (CN _ ((jb _ _).al _)).mono ?_
  rintro en w1 ⟨rfl, hb1⟩
  rw [gk]
  obtain ⟨hw1, hx1⟩ := HCUT.out w1 hb1
  have hz1 := hb1.size
  simp only [World.size_alloc] at hz1
  clear hb1
  obtain ⟨y0, y1, y2, y3, y4⟩ := HFX.out w1 hx1
  go_wp2_with fail
  go_ret
  have hbad : knownB k = false := Bool.eq_false_iff.2 fun h => by
   have h := knownB_iff.1 h
   have := HG.out.2; omega
  exact ⟨ret_bool hbad.symm, hw1⟩
 ·have gn : (!k.key.toList.isEmpty) = true := by rw [g.1]; rfl
  have gk : keyB k.key = true := g.2.1
  have g1 : (1 : Int) ≤ k.first := g.2.2.1
  have g2 : decide (k.first ≤ 1099511627776) = false := jd g.2.2.2
  have HG := jh g
  clear g
  go_enter Tryz.func233, Tryz.ntmps233
  go_wp2_with fail
  refine (CN _ ((jb _ _).al _)).mono ?_
  rintro en w1 ⟨rfl, hb1⟩
  rw [gk]
  obtain ⟨hw1, hx1⟩ := HCUT.out w1 hb1
  have hz1 := hb1.size
  simp only [World.size_alloc] at hz1
  clear hb1
  obtain ⟨y0, y1, y2, y3, y4⟩ := HFX.out w1 hx1
  go_wp2_with fail
  go_ret
  have hbad : knownB k = false := Bool.eq_false_iff.2 fun h => by
   have h := knownB_iff.1 h
   have := HG.out.2; omega
  exact ⟨ret_bool hbad.symm, hw1⟩
 ·have gn : (!k.key.toList.isEmpty) = true := by rw [g.1]; rfl
  have gk : keyB k.key = true := g.2.1
  have g1 : (1 : Int) ≤ k.first := g.2.2.1
  have g2 : k.first ≤ 1099511627776 := g.2.2.2
  have HG := jh g
  clear g
  go_enter Tryz.func233, Tryz.ntmps233
  go_wp2_with fail
  refine (CN _ ((jb _ _).al _)).mono ?_
  rintro en w1 ⟨rfl, hb1⟩
  rw [gk]
  obtain ⟨hw1, hx1⟩ := HCUT.out w1 hb1
  have hz1 := hb1.size
  simp only [World.size_alloc] at hz1
  clear hb1
  obtain ⟨y0, y1, y2, y3, y4⟩ := HFX.out w1 hx1
  go_wp2_with fail
  refine (CS w1).mono ?_
  clear CS y0 y1 y2 y3 y4
  rintro en w2 ⟨rfl, hb2⟩
  go_wp2_with fail
  go_ret
  refine ⟨ret_bool ?_, hw1.tr hb2⟩
  unfold knownB
  rw [HG.out.1, HG.out.2.1, decide_eq_true HG.out.2.2.1, decide_eq_true HG.out.2.2.2]
  rfl
end Go.Proofs.YtcmjgghkmdbphaaGreatDoor
