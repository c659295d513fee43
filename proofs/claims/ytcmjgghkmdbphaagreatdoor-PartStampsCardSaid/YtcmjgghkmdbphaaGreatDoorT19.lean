/- state.order: the order of transactions. DERIVED: THE SHELF's CONTRACTS AT THIS DUMP, IN PLAIN WORDS (tools/lay-plain.mjs out of 'YtcmjgghkmdbphaaGreatDoorSmRaw.lean', which tools/lay-shelf.mjs wrote): THE SAME DECLARATIONS UNDER THE SAME NAMES: 'import', 'namespace', 'open', 'def', 'theorem' AND NOTHING ELSE: no command of the shelf's: FOR A HAND-IN. Each laying: the table of numbers ('.._ren') and one theorem, a field a fact of the dump's own or the kernel's comparison; each contract: ONE APPLICATION. slices.SortFunc at transactions. A row of transactions, sorted: the slice still owns it. slices.SortedFunc over the keys of a map at transactions. maps.Keys at transactions: the iterator over no map. slices.SortedFunc over a map that holds nothing; state.Held of a state that holds nothing. StateWhole: what the law's walk looks at. state.Take; what is looked at is small enough. Plain laws of a state that records made: whose it is stays; frozen ranges are found. Arguments opened: what is read as a datum is one of ours. part's law: a step, and small. The reference's ring: SoundRing and Find of a sound ring. -/
import Derived.Test.YtcmjgghkmdbphaaGreatDoorT17
import Derived.Test.YtcmjgghkmdbphaaGreatDoorT16
import Derived.Shelf.SlSortCmp.WholeK
import Derived.Shelf.SlGeneric
import Derived.Ground.SlsfProg
import Derived.Test.YtcmjgghkmdbphaaGreatDoorProg
import Derived.Test.YtcmjgghkmdbphaaGreatDoorT18
import Derived.Sort.OwnSorted
import Derived.Shelf.SlSortCmp.NoneTotal
import Derived.Test.YtcmjgghkmdbphaaGreatDoorT05
import Derived.Test.YtcmjgghkmdbphaaGreatDoorT09
import Derived.Shelf.Spec.SlicesGrow
import Derived.Ground.Names8Prog
import Derived.Test.YtcmjgghkmdbphaaGreatDoorT02
import Derived.Test.YtcmjgghkmdbphaaGreatDoorT01
import Derived.Test.YtcmjgghkmdbphaaGreatDoorT08
import Derived.Laws.AppendOwn
import Derived.Test.YtcmjgghkmdbphaaGreatDoorT12
import Derived.Test.YtcmjgghkmdbphaaGreatDoorT03
import Derived.Deep.Slices
import Derived.ChangeSame
import Derived.ChangeArms
import Derived.Test.YtcmjgghkmdbphaaGreatDoorT14
set_option maxRecDepth 20000
set_option maxHeartbeats 25600000
namespace Go.Proofs.YtcmjgghkmdbphaaGreatDoor
open Go.RowKit Go.Shelf Go.Sort
instance : Inhabited Tx := ⟨⟨0, 0, 0⟩⟩
def orderT (x y : Tx) : Int := orI [cmpI x.node y.node, cmpI x.life y.life, cmpI x.num y.num]
theorem three_alloc (w : World) (a b c : Obj) : (((w.alloc a).alloc b).drew).alloc c = grow (w.drewN 1) #[a, b, c] := by
 rw [alloc_eq_grow, alloc_eq_grow, alloc_eq_grow, grow_grow]
 show grow (grow w.drew _) _ = _
 rw [grow_grow]
 rfl
theorem int_cells {w : World} {b : Nat} {t : TypeId} {l : List Int} (h : Blk w b t (l.map fun n => .int .i64 n)) (k : Nat) (x : Int) (hk : l[k]? = some x) : w.cell? ⟨b, k, none⟩ = some (.int .i64 x) := by
 rw [h.cell, List.getElem?_map, hk]; rfl
theorem order_any (x y : Tx) (w : World) : Calls Tryz.prog 132 #[.agg (x.cells).toArray, .agg (y.cells).toArray] w fun e w' => e = .returned (.int .i64 (orderT x y)) ∧ ∃ q os', w' = grow (w.drewN q) os' := by
 have BX := (Blk.new w 42 (x.cells)).alloc (.cells (y.cells).toArray 42)
 have BY := Blk.new1 w (.cells (x.cells).toArray 42) 42 (y.cells)
 unfold Tx.cells at *
 go_enter Tryz.func132, Tryz.ntmps132
 go_upto_region 1 with fail
 generalize hw1 : (w.alloc (.cells #[.int .i64 x.node, .int .i64 x.life, .int .i64 x.num] 42)).alloc (.cells #[.int .i64 y.node, .int .i64 y.life, .int .i64 y.num] 42) = w1 at *
 have HW := jh hw1
 clear hw1
 have x0 := On.cell (BX.cell 0 : w1.cell? ⟨w.heap.size, 0, none⟩ = some (.int .i64 x.node))
 have x1 := On.cell (BX.cell 1 : w1.cell? ⟨w.heap.size, 1, none⟩ = some (.int .i64 x.life))
 have x2 := On.cell (BX.cell 2 : w1.cell? ⟨w.heap.size, 2, none⟩ = some (.int .i64 x.num))
 have y0 := On.cell (BY.cell 0 : w1.cell? ⟨w.heap.size + 1, 0, none⟩ = some (.int .i64 y.node))
 have y1 := On.cell (BY.cell 1 : w1.cell? ⟨w.heap.size + 1, 1, none⟩ = some (.int .i64 y.life))
 have y2 := On.cell (BY.cell 2 : w1.cell? ⟨w.heap.size + 1, 2, none⟩ = some (.int .i64 y.num))
 clear BX BY
 have C0 := cmp_any x.node y.node w1.drew
 have C1 := cmp_any x.life y.life w1.drew
 have C2 := cmp_any x.num y.num w1.drew
 refine wp_region_mix (.seg [0, 1, 2, 3, 5, 6, 7, 8, 10, 11, 12, 13] 4 (.seg [] 9 (.seg [] 14 (.seg [] 15 (.seg [] 16 (.leaf [17])))))) (fun w' => ∃ d : Wd (On w1), w' = d.w) (by kernel_rfl) (by kernel_rfl) (fun _ _ d _ _ h => by cases d <;> exact h) (ClsW.mk (jb _ _).drew) ?_
 unfold wpMix; simp only [pick, j1, j2, j3, j4]
 (repeat (show wpQuiet _ _ _ _ (_ :: _) _; go_big_quiet_step (fail))); refine qn ?_
 go_wp2_with fail
 refine C0.mono ?_
 clear C0
 rintro e w' ⟨rfl, rfl⟩
 go_wp2_with fail
 (refine segw (D := On w1) ((jb _ _).drew) ?_; unfold wpMix; simp only [pick, j1, j2, j3, j4]; (repeat (show wpQuiet _ _ _ _ (_ :: _) _; go_big_quiet_step (fail))); refine qn ?_)
 go_wp2_with fail
 refine C1.mono ?_
 clear C1
 rintro e w' ⟨rfl, rfl⟩
 go_wp2_with fail
 (refine segw (D := On w1) ((jb _ _).drew) ?_; unfold wpMix; simp only [pick, j1, j2, j3, j4]; (repeat (show wpQuiet _ _ _ _ (_ :: _) _; go_big_quiet_step (fail))); refine qn ?_)
 go_wp2_with fail
 refine C2.mono ?_
 clear C2
 rintro e w' ⟨rfl, rfl⟩
 go_wp2_with fail
 (refine segw (D := On w1) ((jb _ _).drew) ?_; unfold wpMix; simp only [pick, j1, j2, j3, j4]; (repeat (show wpQuiet _ _ _ _ (_ :: _) _; go_big_quiet_step (fail))); refine qn ?_)
 have C3 := or_any [cmpI x.node y.node, cmpI x.life y.life, cmpI x.num y.num] w1.drew.heap.size 3 (w1.drew.alloc (.cells #[.int .i64 (cmpI x.node y.node), .int .i64 (cmpI x.life y.life), .int .i64 (cmpI x.num y.num)] 3)) (by simp) (int_cells (Blk.new w1.drew 3 _))
 go_wp2_with fail
 (refine segw (D := On w1) ((jb _ _).drew.al _) ?_; unfold wpMix; simp only [pick, j1, j2, j3, j4]; (repeat (show wpQuiet _ _ _ _ (_ :: _) _; go_big_quiet_step (fail))); refine qn ?_)
 go_wp2_with fail
 refine C3.mono ?_
 clear C3
 rintro e w' ⟨rfl, rfl⟩
 go_wp2_with fail
 (refine segw (D := On w1) ((jb _ _).drew.al _) ?_; unfold wpMix; simp only [pick, j1, j2, j3, j4]; (repeat (show wpQuiet _ _ _ _ (_ :: _) _; go_big_quiet_step (fail))); refine qn ?_)
 clear x0 x1 x2 y0 y1 y2
 go_wp2_with fail
 go_ret
 refine ⟨rfl, 1, #[.cells x.cells.toArray 42, .cells y.cells.toArray 42, .cells #[.int .i64 (cmpI x.node y.node), .int .i64 (cmpI x.life y.life), .int .i64 (cmpI x.num y.num)] 3], ?_⟩
 rw [← HW.out]
 exact three_alloc w _ _ _
theorem orI_neg (a b c : Int) : orI [a, b, c] < 0 ↔ a < 0 ∨ (a = 0 ∧ (b < 0 ∨ (b = 0 ∧ c < 0))) := by
 simp only [orI]
 split
 ·split
  ·split <;> omega
  ·omega
 ·omega
theorem cmpI_neg (x y : Int) : (cmpI x y < 0 ↔ x < y) ∧ (cmpI x y = 0 ↔ x = y) := by
 unfold cmpI
 constructor
 ·repeat' split
  all_goals omega
 ·repeat' split
  all_goals omega
theorem ltOf_order (x y : Tx) : ltOf orderT x y = decide (x.node < y.node ∨ (x.node = y.node ∧ (x.life < y.life ∨ (x.life = y.life ∧ x.num < y.num)))) := by
 unfold ltOf orderT
 refine decide_eq_decide.2 ?_
 rw [orI_neg, (cmpI_neg _ _).1, (cmpI_neg _ _).2, (cmpI_neg _ _).1, (cmpI_neg _ _).2, (cmpI_neg _ _).1]
theorem order_swo : SWO (ltOf orderT) where
 irrefl x := by rw [ltOf_order]; simp
 trans x y z h1 h2 := by rw [ltOf_order] at *; simp only [decide_eq_true_eq] at *; omega
 ntrans x y z h1 h2 := by rw [ltOf_order] at *; simp only [decide_eq_false_iff_not] at *; omega
theorem order_lays (blk off size : Nat) (w : World) : CmpLays Tryz.prog 132 #[] Tx.cells 3 orderT blk off size w := fun _ _ _ _ x y => order_any x y _
end Go.Proofs.YtcmjgghkmdbphaaGreatDoor
namespace Go.Proofs
open Go.Shelf
def Tryz.sortTx_ren : Go.Shelf.Ren := ⟨fun | 6 => 222 | 15 => 286 | 14 => 285 | 28 => 319 | 29 => 320 | 20 => 311 | 21 => 312 | 22 => 313 | 23 => 314 | 24 => 315 | 25 => 316 | 26 => 317 | 27 => 318 | 46 => 332 | 47 => 333 | 48 => 334 | 49 => 335 | 50 => 336 | 57 => 342 | n => n, fun | 22 => 62 | 24 => 42 | 25 => 209 | 3 => 3 | 39 => 352 | 0 => 0 | 53 => 288 | 55 => 303 | 4 => 4 | 46 => 372 | 45 => 371 | 50 => 376 | 5 => 5 | 9 => 9 | 66 => 386 | 70 => 180 | 76 => 398 | 77 => 399 | n => n, fun | n => n⟩
theorem Tryz.sortTx : Go.Proofs.SlLaysF0.n6 Tryz.prog Tryz.sortTx_ren := {
 mixed := by kernel_rfl
 f6 := ⟨Tryz.f222.name, by decide, Tryz.func222.trans (congrArg some (by kernel_rfl))⟩
 f14 := ⟨Tryz.f285.name, by decide, Tryz.func285.trans (congrArg some (by kernel_rfl))⟩
 f15 := Tryz.func286.trans (congrArg some (by kernel_rfl))
 f20 := ⟨Tryz.f311.name, by decide, Tryz.func311.trans (congrArg some (by kernel_rfl))⟩
 f21 := ⟨Tryz.f312.name, by decide, Tryz.func312.trans (congrArg some (by kernel_rfl))⟩
 f22 := ⟨Tryz.f313.name, by decide, Tryz.func313.trans (congrArg some (by kernel_rfl))⟩
 f23 := ⟨Tryz.f314.name, by decide, Tryz.func314.trans (congrArg some (by kernel_rfl))⟩
 f24 := ⟨Tryz.f315.name, by decide, Tryz.func315.trans (congrArg some (by kernel_rfl))⟩
 f25 := ⟨Tryz.f316.name, by decide, Tryz.func316.trans (congrArg some (by kernel_rfl))⟩
 f26 := ⟨Tryz.f317.name, by decide, Tryz.func317.trans (congrArg some (by kernel_rfl))⟩
 f27 := ⟨Tryz.f318.name, by decide, Tryz.func318.trans (congrArg some (by kernel_rfl))⟩
 f28 := Tryz.func319.trans (congrArg some (by kernel_rfl))
 f29 := Tryz.func320.trans (congrArg some (by kernel_rfl))
 f46 := ⟨Tryz.f332.name, by decide, Tryz.func332.trans (congrArg some (by kernel_rfl))⟩
 f47 := Tryz.func333.trans (congrArg some (by kernel_rfl))
 f48 := Tryz.func334.trans (congrArg some (by kernel_rfl))
 f49 := ⟨Tryz.f335.name, by decide, Tryz.func335.trans (congrArg some (by kernel_rfl))⟩
 f50 := ⟨Tryz.f336.name, by decide, Tryz.func336.trans (congrArg some (by kernel_rfl))⟩
 f57 := ⟨Tryz.f342.name, by decide, Tryz.func342.trans (congrArg some (by kernel_rfl))⟩
 t0 := Tryz.underlying0
 a0 := Tryz.isAgg0
 z0 := Tryz.sizeOf0
 v0 := Tryz.zeroValue0
 t3 := Tryz.underlying3
 a3 := Tryz.isAgg3
 z3 := Tryz.sizeOf3
 v3 := Tryz.zeroValue3
 t4 := Tryz.underlying4
 a4 := Tryz.isAgg4
 z4 := Tryz.sizeOf4
 v4 := Tryz.zeroValue4
 t5 := Tryz.underlying5
 a5 := Tryz.isAgg5
 z5 := Tryz.sizeOf5
 v5 := Tryz.zeroValue5
 t9 := Tryz.underlying9
 a9 := Tryz.isAgg9
 z9 := Tryz.sizeOf9
 v9 := Tryz.zeroValue9
 t22 := Tryz.underlying62
 a22 := Tryz.isAgg62
 z22 := Tryz.sizeOf62
 v22 := Tryz.zeroValue62
 t25 := Tryz.underlying209
 a25 := Tryz.isAgg209
 z25 := Tryz.sizeOf209
 v25 := Tryz.zeroValue209
 t39 := Tryz.underlying352
 a39 := Tryz.isAgg352
 z39 := Tryz.sizeOf352
 v39 := Tryz.zeroValue352
 t45 := Tryz.underlying371
 a45 := Tryz.isAgg371
 z45 := Tryz.sizeOf371
 v45 := Tryz.zeroValue371
 t46 := Tryz.underlying372
 a46 := Tryz.isAgg372
 z46 := Tryz.sizeOf372
 v46 := Tryz.zeroValue372
 t50 := Tryz.underlying376
 a50 := Tryz.isAgg376
 z50 := Tryz.sizeOf376
 v50 := Tryz.zeroValue376
 t53 := Tryz.underlying288
 a53 := Tryz.isAgg288
 z53 := Tryz.sizeOf288
 v53 := Tryz.zeroValue288
 t55 := Tryz.underlying303
 a55 := Tryz.isAgg303
 z55 := Tryz.sizeOf303
 v55 := Tryz.zeroValue303
 t66 := Tryz.underlying386
 a66 := Tryz.isAgg386
 z66 := Tryz.sizeOf386
 v66 := Tryz.zeroValue386
 t70 := Tryz.underlying180
 a70 := Tryz.isAgg180
 z70 := Tryz.sizeOf180
 v70 := Tryz.zeroValue180
 t76 := Tryz.underlying398
 a76 := Tryz.isAgg398
 z76 := Tryz.sizeOf398
 v76 := Tryz.zeroValue398
 t77 := Tryz.underlying399
 a77 := Tryz.isAgg399
 z77 := Tryz.sizeOf399
 v77 := Tryz.zeroValue399 }
end Go.Proofs
namespace Go.Proofs.YtcmjgghkmdbphaaGreatDoor
open Go.RowKit Go.Shelf Go.Sort
theorem enters_order : ∀ args w, (callFunc 132 args).run Tryz.prog w = .ok (.enter 132 args) w := enters_of Tryz.func132 (by kernel_rfl) rfl
theorem sortTx_any (blk off cap : Nat) (d : Array Tx) (w : World) (hH : HoldsK Tx.cells 3 w blk off d) (hblk : blk < w.heap.size) (hsz : d.size < 4611686018427387904) :
 Calls Tryz.prog 222 #[.slice (some ⟨blk, off, none⟩) d.size cap, .func (.func 132) #[] #[]] w fun e w' =>
  e = .returned (.tuple #[]) ∧ ∃ d' n os, PermIn 0 d.size d d' ∧ SortedIn (ltOf orderT) 0 d.size d' ∧ w' = sortWorldK Tx.cells 3 w blk off n d' os :=
 AnyQ.slices_SortFunc Tryz.sortTx 3 Tryz.isAgg42 Tryz.sizeOf42 Tx.cells (fun _ => rfl) (fun x v hv => by simp [Tx.cells] at hv; rcases hv with rfl | rfl | rfl <;> rfl) orderT order_swo 132 #[] blk off cap d w enters_order (order_lays blk off d.size w) hH hblk hsz
end Go.Proofs.YtcmjgghkmdbphaaGreatDoor
namespace Go.Proofs.YtcmjgghkmdbphaaGreatDoor
open Go.RowKit Go.Shelf Go.Sort
theorem flat_len (ts : List Tx) : (ts.flatMap Tx.cells).length = ts.length * 3 := by
 induction ts with
 | nil => rfl
 | cons t ts ih => rw [List.flatMap_cons, List.length_append, ih]; simp [Tx.cells]; omega
theorem flat_get : ∀ (ts : List Tx) (t : Nat), t < ts.length * 3 → (ts.flatMap Tx.cells)[t]? = some ((ts[t / 3]!).cells[t % 3]!)
 | [], t, h => by simp at h
 | x :: ts, t, h => by
   rw [List.flatMap_cons]
   by_cases h3 : t < 3
   ·rw [List.getElem?_append_left (by simpa [Tx.cells] using h3), Nat.div_eq_of_lt h3, Nat.mod_eq_of_lt h3]
    obtain rfl | rfl | rfl : t = 0 ∨ t = 1 ∨ t = 2 := by omega
    all_goals rfl
   ·have hl : x.cells.length = 3 := rfl
    rw [List.getElem?_append_right (by omega), hl, flat_get ts (t - 3) (by simp at h; omega)]
    obtain ⟨u, rfl⟩ : ∃ u, t = u + 3 := ⟨t - 3, by omega⟩
    rw [Nat.add_sub_cancel, Nat.add_mod_right, Nat.add_div_right u (by decide)]
    simp
theorem flatK_tx (ts : List Tx) : flatK Tx.cells 3 ts.toArray = (ts.flatMap Tx.cells).toArray := by
 apply Array.ext
 ·rw [size_flatK, List.size_toArray, List.size_toArray, flat_len]
 ·intro t h1 h2
  have h : t < ts.length * 3 := by simpa using h1
  have e1 := get_flatK Tx.cells 3 ts.toArray t (by simpa using h)
  have e2 := flat_get ts t h
  rw [getElem!_pos _ t h1] at e1
  rw [e1]
  have e3 : ((ts.flatMap Tx.cells).toArray)[t]? = some ((ts[t / 3]!).cells[t % 3]!) := by simpa using e2
  rw [Array.getElem?_eq_getElem h2] at e3
  rw [Option.some.inj e3]
  simp
theorem holdsK_tx {w : World} {g : Nat} {e : TypeId} {cur : Array Value} {ss : List Tx} (hb : w.heap[g]? = some (.cells cur e (0, 0))) (hc : cur.toList.take (ss.length * 3) = ss.flatMap Tx.cells) : HoldsK Tx.cells 3 w g 0 ss.toArray := by
 intro j hj
 rw [flatK_tx] at hj ⊢
 have hj' : j < ss.length * 3 := by rwa [List.size_toArray, flat_len] at hj
 have h1 : (ss.flatMap Tx.cells)[j]? = cur[j]? := by rw [← hc, List.getElem?_take_of_lt hj', Array.getElem?_toList]
 have h2 := flat_get ss j hj'
 constructor
 ·rw [getElem!_pos _ j hj]
  simp only [Nat.zero_add, World.cell?, hb]
  rw [← h1]
  simp
 ·simp [World.frozen?, hb]
theorem heap_sortedT {w : World} {g n : Nat} {os : Array Obj} {cur : Array Value} {e : TypeId} (F : Array Value) (hb : w.heap[g]? = some (.cells cur e (0, 0))) :
 (grow (putRow id (Sort.ahead w n) g 0 F) os).heap[g]? = some (.cells (putCells id 0 F cur) e (0, 0)) := by
 have hg : g < w.heap.size := (Array.getElem?_eq_some_iff.1 hb).1
 rw [heap_grow_old _ _ (by simpa using hg)]
 simp [putRow, mapBlock, Sort.ahead, Array.getElem?_modify, hb, onCells]
theorem grownBy_sortedT {w : World} {g n : Nat} {os : Array Obj} (F : Array Value) : w.grownBy (grow (putRow id (Sort.ahead w n) g 0 F) os) (some g) := by
 refine ⟨rfl, rfl, rfl, by simp, fun k hk hne => ?_⟩
 rw [heap_grow_old _ _ (by simpa using hk)]
 have : g ≠ k := fun e => hne (by rw [e])
 simp [putRow, mapBlock, Sort.ahead, Array.getElem?_modify, this]
theorem take_putT (cur F : Array Value) (h : F.size ≤ cur.size) : (putCells id 0 F cur).toList.take F.size = F.toList := by
 apply List.ext_getElem?
 intro j
 by_cases hj : j < F.size
 ·rw [List.getElem?_take_of_lt hj, Array.getElem?_toList, Array.getElem?_toList]
  simp [putCells, hj, show j < cur.size by omega]
 ·rw [List.getElem?_take_eq_none (by omega), List.getElem?_eq_none (by simp; omega)]
theorem ownsRow_sortedT {w : World} {base g cap n : Nat} {e : TypeId} {os : Array Obj} {cur : Array Value} {ss ts : List Tx} (hl : ts.length = ss.length) (hbase : base ≤ g) (hb : w.heap[g]? = some (.cells cur e (0, 0)))
 (h1 : ss.length ≤ cap) (h2 : cap ≤ maxLen) (h3 : cur.size = cap * 3) :
 (sortWorldK Tx.cells 3 w g 0 n ts.toArray os).ownsRow base e 3 (.slice (some ⟨g, 0, none⟩) ss.length cap) ss.length (ts.flatMap Tx.cells) ∧ w.grownBy (sortWorldK Tx.cells 3 w g 0 n ts.toArray os) (some g) := by
 unfold sortWorldK putRowK
 rw [flatK_tx]
 have hs : (ts.flatMap Tx.cells).toArray.size = ss.length * 3 := by rw [List.size_toArray, flat_len, hl]
 refine ⟨⟨by rw [flat_len, hl], .inr ⟨g, cap, _, rfl, hbase, heap_sortedT _ hb, h1, h2, by simp [putCells, h3], ?_⟩⟩, grownBy_sortedT _⟩
 rw [← hs]
 exact take_putT cur _ (by rw [hs, h3]; omega)
end Go.Proofs.YtcmjgghkmdbphaaGreatDoor
namespace Go.Proofs.YtcmjgghkmdbphaaGreatDoor
open Go.RowKit Go.Shelf Go.Sort
def GotTxs (B : Nat) (l : List Tx) (e : Ending) (w' : World) : Prop := ∃ (v : Value) (ts : List Tx), e = .returned v ∧ ts.Perm l ∧ w'.ownsRow B 42 3 v ts.length (ts.flatMap Tx.cells)
theorem sortedH_any (bx m : Nat) (ps : List (Tx × Value)) (w : World) (hx : bx < w.heap.size) (hb : w.cell? ⟨bx, 0, none⟩ = some (.map (some m))) (h : MapAt txE w m ps) (hl : ps.length ≤ 1000000) (h0 : ps ≠ []) :
 Calls Tryz.prog 130 #[.func (.func 223) #[] #[.pointer (some ⟨bx, 0, none⟩)], .func (.func 132) #[] #[]] w fun e w' => GotTxs w.heap.size (ps.map (·.1)) e w' ∧ Below w.heap.size w w' := by
 have C1 := collectH_any bx m ps w hx hb h hl
 clear hb h
 go_enter Tryz.func130, Tryz.ntmps130
 go_wp2_with fail
 refine C1.mono ?_
 clear C1
 rintro e w1 ⟨v, ss, rfl, hp, hrow, hnil, hb1⟩
 have hne : v ≠ .slice none 0 0 := fun e => h0 (by
  have := hnil.1 e
  subst this
  have := hp.length_eq
  simp at this
  exact List.eq_nil_of_length_eq_zero this.symm)
 obtain ⟨hrl, ⟨rfl, _⟩ | ⟨g, cap, cur, rfl, hg1, hg2, hg3, hg4, hg5, hg6⟩⟩ := hrow
 ·exact absurd rfl hne
 ·have hgl : g < w1.heap.size := (Array.getElem?_eq_some_iff.1 hg2).1
  have C2 := sortTx_any g 0 cap ss.toArray w1 (holdsK_tx hg2 hg6) hgl (by have := hp.length_eq; simp at this ⊢; omega)
  rw [List.size_toArray] at C2
  have H1 := jh (ja hp (ja hb1 (ja hg1 (ja hg2 (ja hg3 (ja hg4 hg5))))))
  clear hp hnil hb1 hne hrl hg1 hg2 hg3 hg4 hg5 hg6 hgl
  go_wp2_with fail
  refine C2.mono ?_
  clear C2
  rintro e w2 ⟨rfl, d', n, os, hpi, hsi, hw2⟩
  have H2 := jh (ja hpi hw2)
  clear hpi hsi hw2
  go_wp2_with fail
  go_ret
  obtain ⟨hp, hb1, hg1, hg2, hg3, hg4, hg5⟩ := H1.out
  obtain ⟨⟨hz, _, hpm⟩, rfl⟩ := H2.out
  have hl2 : d'.toList.length = ss.length := by simpa using hz
  have hpt : d'.toList.Perm ss := by
   have e1 : d'.extract 0 ss.length = d' := by rw [← hl2, Array.length_toList]; exact Array.extract_size
   have e2 : ss.toArray.extract 0 ss.length = ss.toArray := by rw [← List.size_toArray]; exact Array.extract_size
   rw [e1, e2] at hpm
   simpa using hpm
  have O := ownsRow_sortedT (ts := d'.toList) (n := n) (os := os) hl2 hg1 hg2 hg3 hg4 hg5
  rw [Array.toArray_toList] at O
  exact ⟨⟨_, d'.toList, rfl, hpt.trans hp, by rw [hl2]; exact O.1⟩, hb1.grown O.2 hb1.size (fun k e => by cases e; exact hg1)⟩
end Go.Proofs.YtcmjgghkmdbphaaGreatDoor
namespace Go.Proofs.YtcmjgghkmdbphaaGreatDoor
open Go.RowKit Go.ChangeMaps
set_option maxRecDepth 100000 in
theorem keysNilH_in (F : Fence) (n : Nat) (h10 : F.fn 223) (hro : F.round = none) (l Bm : Nat) (J : List Tx → World → Prop)
 (W : World) (hJ : AbidesFrom W.heap.size J) (hm : W.cell? ⟨Bm, 0, none⟩ = some (.map none)) (h0 : J [] W) :
 CallsIn F n Tryz.prog 223 #[.func (.yield l) #[] #[], .pointer (some ⟨Bm, 0, none⟩)] W fun e W' => (∃ v, e = .returned v) ∧ ∃ xs : List Tx, xs = [] ∧ J xs W' := by
 refine callsIn_of_wp Tryz.func223 rfl h10 ?_ hro
 simp only [Tryz.ntmps223, List.size_toArray, List.length_cons, List.length_nil, Nat.reduceAdd, Nat.reduceSub, Array.replicate_succ, Array.replicate_zero, List.push_toArray, List.append_toArray, List.nil_append, List.cons_append]
 gi_wp2_with (first
  | (gi_at_range; refine wpListIn_range_nil rfl (.tmp 4) 172 rfl Tryz.underlying172 rfl ?_; intro w0 hit0 hb0 hs0)
  | gi_in)
 go_frame
 gi_loopw [3] (fun _ wr => wr = w0) (fun _ _ => 0)
 case atStart => rfl
 case round =>
  obtain rfl := hrel
  gi_wp2_with (first
   | (gi_at_next; refine wpListIn_next_nil rfl (.tmp 5) rfl rfl hit0 ?_)
   | gi_in)
  go_end0
  exact ⟨⟨_, rfl⟩, [], rfl, hJ [] W _ none h0 (below_grown hb0) (fun r e => by cases e)⟩
theorem collectNilH_any (bx : Nat) (w : World) (hx : bx < w.heap.size) (hb : w.cell? ⟨bx, 0, none⟩ = some (.map none)) :
 Calls Tryz.prog 221 #[.func (.func 223) #[] #[.pointer (some ⟨bx, 0, none⟩)]] w fun e w' => e = .returned (.slice none 0 0) ∧ Below w.heap.size w w' := by
 have hseq : SeqGives Fence.wide (5 - 1 - 1) Tryz.prog 223 #[.pointer (some ⟨bx, 0, none⟩)] txE (fun xs : List Tx => xs = []) 0 w := fun l J W hW hJ hY h0 =>
  keysNilH_in Fence.wide _ trivial rfl l bx J W hJ ((hW.cell (p := ⟨bx, 0, none⟩) hx).trans hb) h0
 refine (callsIn_wide.1 (collectT_in Fence.wide 5 trivial trivial rfl (by omega) 223 #[.pointer (some ⟨bx, 0, none⟩)] trivial (enters_of Tryz.func223 (by kernel_rfl) rfl) _ 0 (by omega) w hseq)).mono ?_
 rintro e w' ⟨v, ss, rfl, rfl, _, hnil, hb⟩
 exact ⟨by rw [hnil.2 rfl], hb⟩
end Go.Proofs.YtcmjgghkmdbphaaGreatDoor
namespace Go.Proofs.YtcmjgghkmdbphaaGreatDoor
open Go.RowKit Go.Shelf Go.Sort
theorem sortNone_any (F : Value) (w : World) : Calls Tryz.prog 222 #[.slice none 0 0, F] w fun e w' => e = .returned (.tuple #[]) ∧ w' = w := AnyF.slices_SortFunc_none Tryz.sortTx none 0 F w
theorem collectNoH_any (mb : Option Nat) (w : World) (h : MapV w (.map mb) []) : Calls Tryz.prog 221 #[.func (.func 223) #[] #[.pointer (some ⟨w.heap.size, 0, none⟩)]] (w.alloc (.cells #[.map mb] 172)) fun e w' =>
 e = .returned (.slice none 0 0) ∧ Below (w.alloc (.cells #[.map mb] 172)).heap.size (w.alloc (.cells #[.map mb] 172)) w' := by
 have h1 := h.ext ((jb w.heap.size w).al (.cells #[.map mb] 172))
 have hx : w.heap.size < (w.alloc (.cells #[.map mb] 172)).heap.size := by simp
 have hb : (w.alloc (.cells #[.map mb] 172)).cell? ⟨w.heap.size, 0, none⟩ = some (.map mb) := (Blk.new w 172 [.map mb]).cell 0
 rcases h1 with ⟨e, _⟩ | ⟨m, e, hM⟩
 ·injection e with e
  subst e
  exact collectNilH_any w.heap.size _ hx hb
 ·injection e with e
  subst e
  refine (collectH_any w.heap.size m [] _ hx hb hM (by simp)).mono ?_
  rintro e w' ⟨v, ss, rfl, hp, _, hn, hb'⟩
  have hs : ss = [] := by simpa using hp.length_eq
  exact ⟨by rw [hn.2 hs], hb'⟩
theorem sortedNoH_any (mb : Option Nat) (w : World) (h : MapV w (.map mb) []) : Calls Tryz.prog 130 #[.func (.func 223) #[] #[.pointer (some ⟨w.heap.size, 0, none⟩)], .func (.func 132) #[] #[]] (w.alloc (.cells #[.map mb] 172)) fun e w' =>
 e = .returned (.slice none 0 0) ∧ Below w.heap.size w w' := by
 have C1 := collectNoH_any mb w h
 have hb0 := (jb w.heap.size w).al (.cells #[.map mb] 172)
 clear h
 go_enter Tryz.func130, Tryz.ntmps130
 go_wp2_with fail
 refine C1.mono ?_
 clear C1
 rintro e w1 ⟨rfl, hb1⟩
 have C2 := sortNone_any (.func (.func 132) #[] #[]) w1
 have H := jh (hb0.tr hb1)
 clear hb0 hb1
 go_wp2_with fail
 refine C2.mono ?_
 clear C2
 rintro e w2 ⟨rfl, rfl⟩
 go_wp2_with fail
 go_ret
 exact ⟨rfl, H.out⟩
theorem heldNo_any (g : Nat) (s : St) (P : Nat → Prop) (w : World) (h : StAt w P g s) (hs : s.self ≠ 0) (h0 : s.held = []) : Calls Tryz.prog 41 #[ptrV g] w fun e w' => e = .returned (.slice none 0 0) ∧ Below w.heap.size w w' := by
 obtain ⟨v, hB, hI⟩ := h
 obtain ⟨LA, hMV, _, hl⟩ := hI.held.mapV
 have hLA : LA = [] := by
  rw [h0] at hl
  exact List.map_eq_nil_iff.1 hl.symm
 subst hLA
 have C1 := gone_any g s.self w (hB.cell 0) hs
 have b6 : w.cell? ⟨g, 6, none⟩ = some v.held := hB.cell 6
 obtain ⟨mb, hv⟩ : ∃ mb, v.held = .map mb := by
  rcases hMV with ⟨e, _⟩ | ⟨m, e, _⟩
  ·exact ⟨_, e⟩
  ·exact ⟨_, e⟩
 rw [hv] at b6 hMV
 have C2 := keysH_any mb w
 have C3 := sortedNoH_any mb w hMV
 clear hB hI hMV hv hl h0
 unfold ptrV at C1 ⊢
 go_enter Tryz.func41, Tryz.ntmps41
 go_wp2_with fail
 refine C1.mono ?_
 clear C1
 rintro e w' ⟨rfl, rfl⟩
 go_wp2_with fail
 refine C2.mono ?_
 clear C2 b6
 rintro e w1 ⟨rfl, rfl⟩
 go_wp2_with fail
 refine C3.mono ?_
 clear C3
 rintro e w2 ⟨rfl, hb2⟩
 go_wp2_with fail
 go_loopw [2, 14] (fun o i wr => o = .slice none 0 0 ∧ i = .int .i64 0 ∧ wr = w2) (fun _ _ _ => 0)
 case atStart => exact ⟨rfl, rfl, rfl⟩
 case round =>
  obtain ⟨rfl, rfl, rfl⟩ := hrel
  go_wp2_with fail
  go_ret
  exact ⟨rfl, hb2⟩
end Go.Proofs.YtcmjgghkmdbphaaGreatDoor
namespace Go.Proofs.YtcmjgghkmdbphaaGreatDoor
open Go.RowKit
theorem len_lenL (l : List Str) : (l.length : Int) ≤ lenL l := by
 unfold lenL
 have := sum_mono (l := l.map fun s => (s.size : Int)) (by simp) 0
 simp only [List.take_zero, List.sum_nil] at this
 omega
theorem sizeP_bd (p : Put) : (p.data.length : Int) ≤ sizeP p := by
 have := len_lenL p.data
 unfold sizeP; omega
theorem sumP_bd : ∀ l : List Put, (sumD l : Int) ≤ (l.map sizeP).sum ∧ ∀ p ∈ l, (p.data.length : Int) ≤ (l.map sizeP).sum
 | [] => ⟨by simp [sumD], by simp⟩
 | p :: l => by
   obtain ⟨h1, h2⟩ := sumP_bd l
   have h3 := sizeP_bd p
   have h4 : (0 : Int) ≤ (sumD l : Int) := Int.natCast_nonneg _
   have h5 : (0 : Int) ≤ (p.data.length : Int) := Int.natCast_nonneg _
   have e : sumD (p :: l) = p.data.length + sumD l := by simp [sumD]
   rw [List.map_cons, List.sum_cons, e]
   refine ⟨by omega, fun q hq => ?_⟩
   rcases List.mem_cons.1 hq with rfl | hq
   ·omega
   ·have := h2 q hq; omega
end Go.Proofs.YtcmjgghkmdbphaaGreatDoor
namespace Go.Proofs.YtcmjgghkmdbphaaGreatDoor
open Go.RowKit
theorem sizeB_sum (b : Batch) : (sumD b.puts : Int) ≤ sizeB b ∧ (b.puts.length : Int) ≤ sizeB b ∧ ∀ p ∈ b.puts, (p.data.length : Int) ≤ sizeB b := by
 obtain ⟨h1, h2⟩ := sumP_bd b.puts
 have h4 : (0 : Int) ≤ (sumD b.puts : Int) := Int.natCast_nonneg _
 unfold sizeB
 exact ⟨by omega, by omega, fun p hp => by have := h2 p hp; omega⟩
end Go.Proofs.YtcmjgghkmdbphaaGreatDoor
namespace Go.Proofs.YtcmjgghkmdbphaaGreatDoor
theorem fresh_few {s : St} {N : Nat} (h : Inv s N) (hN : N ≤ 39000) : (freshT s.table).length ≤ 40000 := by
 have h1 := (fresh_len h.tab).1
 have h2 := h.size
 omega
end Go.Proofs.YtcmjgghkmdbphaaGreatDoor
namespace Go.Proofs.YtcmjgghkmdbphaaGreatDoor
set_option maxRecDepth 100000
open Go.RowKit Go.ChangeShapes Go.WideShapes Go.Deep
def Opens {α : Type} (R : Rep α) (t : TypeId) : Prop := Tryz.prog.cellsOf t = R.size ∧ ∀ (H : Type) (enc : TypeId × Value → H) (w : World) (base : Nat) (sp : Nat → Bool) (held : Bool) (fuel : Nat) (cs : List Value) (x : DataW H × List MemPlace),
 DataW.trod enc Tryz.prog w base sp held fuel t cs = some x → ∃ a, R.rep w (fun g => g < w.heap.size) cs a
def Parts {H : Type} (enc : TypeId × Value → H) (w : World) (base : Nat) (sp : Nat → Bool) (held : Bool) (fuel : Nat) : List TypeId → List Value → Prop
 | [], cs => cs = []
 | t :: ts, cs => (∃ y, DataW.trod enc Tryz.prog w base sp held fuel t (cs.take (Tryz.prog.cellsOf t)) = some y) ∧ Parts enc w base sp held fuel ts (cs.drop (Tryz.prog.cellsOf t))
def OpensF {α : Type} (R : Rep α) (ts : List TypeId) : Prop := ∀ (H : Type) (enc : TypeId × Value → H) (w : World) (base : Nat) (sp : Nat → Bool) (held : Bool) (fuel : Nat) (cs : List Value), Parts enc w base sp held fuel ts cs → ∃ a, R.rep w (fun g => g < w.heap.size) cs a
def offB (P : Program) (n : Nat) : List Field → Nat → Bool
 | [], off => decide (off = n)
 | f :: r, off => decide (f.offset = off) && offB P n r (off + P.cellsOf f.type)
section
variable {α β : Type} {R : Rep α} {S : Rep β}
theorem parts_of {H : Type} {enc : TypeId × Value → H} {w : World} {base : Nat} {sp : Nat → Bool} {held : Bool} {fuel : Nat} {cs : List Value} : ∀ (fs : List Field) (off : Nat), (∀ f ∈ fs, ∃ y, DataW.trod enc Tryz.prog w base sp held fuel f.type ((cs.drop f.offset).take (Tryz.prog.cellsOf f.type)) = some y) → offB Tryz.prog cs.length fs off = true →
 Parts enc w base sp held fuel (fs.map (·.type)) (cs.drop off)
 | [], off, _, ho => by
   simp only [offB, decide_eq_true_eq] at ho
   subst ho
   simp [Parts]
 | f :: r, off, h, ho => by
   simp only [offB, Bool.and_eq_true, decide_eq_true_eq] at ho
   obtain ⟨rfl, ho⟩ := ho
   refine ⟨h f (by simp), ?_⟩
   have := parts_of r _ (fun g hg => h g (by simp [hg])) ho
   rwa [List.drop_drop]
theorem Opens.one {t : TypeId} (h : Opens R t) : OpensF R [t] := fun H enc w base sp held fuel cs hp => by
 obtain ⟨⟨y, hy⟩, hd⟩ := hp
 obtain ⟨a, ha⟩ := h.2 _ _ _ _ _ _ _ _ _ hy
 simp only [Parts] at hd
 rw [List.take_of_length_le (by simpa using hd)] at ha
 exact ⟨a, ha⟩
theorem Opens.more {t : TypeId} {ts : List TypeId} (h : Opens R t) (k : OpensF S ts) : OpensF (R.cat S) (t :: ts) := fun H enc w base sp held fuel cs hp => by
 obtain ⟨⟨y, hy⟩, hd⟩ := hp
 obtain ⟨a, ha⟩ := h.2 _ _ _ _ _ _ _ _ _ hy
 obtain ⟨b, hb⟩ := k _ _ _ _ _ _ _ _ hd
 exact ⟨(a, b), _, _, (List.take_append_drop _ _).symm, ha, hb⟩
theorem OpensF.struct {fs : Array Field} {t : TypeId} (ht : Tryz.prog.underlying t = some (.struct fs)) (hc : Tryz.prog.cellsOf t = R.size) (ho : offB Tryz.prog (Tryz.prog.cellsOf t) fs.toList 0 = true) (h : OpensF R (fs.toList.map (·.type))) : Opens R t := ⟨hc, fun H enc w base sp held fuel cs x hx => by
 obtain ⟨xs, n, _, _, hl, hxl, hf⟩ := DataW.trod_struct ht hx
 have := parts_of (enc := enc) (w := w) (base := base) (sp := sp) (held := held) (fuel := n) (cs := cs) fs.toList 0 (fun f hfm => by
  obtain ⟨i, hi, rfl⟩ := List.getElem_of_mem hfm
  have h1 := hf i fs.toList[i] (by simp at hi; simp [hi])
  rw [h1]
  have : i < xs.length := by rw [hxl]; simpa using hi
  exact ⟨xs[i], jg this⟩) (by rw [hl]; exact ho)
 exact h _ _ _ _ _ _ _ _ (by simpa using this)⟩
theorem Opens.via {t : TypeId} {f : β → α} (g : α → β) (hg : ∀ a, f (g a) = a) (h : Opens R t) : Opens (R.via f) t := ⟨h.1, fun H enc w base sp held fuel cs x hx => by
 obtain ⟨a, ha⟩ := h.2 _ _ _ _ _ _ _ _ _ hx
 refine ⟨g a, ?_⟩
 show R.rep _ _ _ (f (g a))
 rw [hg]; exact ha⟩
theorem Opens.sl {t e : TypeId} (ht : Tryz.prog.underlying t = some (.slice e)) (hc : Tryz.prog.cellsOf t = 1) (h : Opens R e) : Opens R.sl t := ⟨hc, fun H enc w base sp held fuel cs x hx => by
 rcases open_slice ht hx with ⟨h0, _⟩ | ⟨a, len, cap, m, n, D, Pl, hcs, hb, hl, hcap, hmm, _, hi⟩
 ·exact ⟨[], none, 0, h0, Nat.le_refl _, by simp, Rep.Row.nil_⟩
 ·have hlm : len ≤ m := by rw [hmm]; split <;> omega
  rw [h.1] at hi
  have hcap' : cap ≤ 9223372036854775807 := by unfold maxLen at hcap; omega
  by_cases hz : len = 0
  ·exact ⟨[], some a, cap, by rw [hcs, hz]; rfl, Nat.zero_le _, hcap', Rep.Row.nil_⟩
  have key : ∀ i, i < len → ∃ cs' y, R.rep w (fun g => g < w.heap.size) cs' y ∧ ∀ j u, cs'[j]? = some u → w.cell? (a.add (i * R.size + j)) = some u := fun i hil => by
   obtain ⟨cs', h1, h2⟩ := hi i (by omega)
   obtain ⟨y, hy⟩ := h.2 _ _ _ _ _ _ _ _ _ h2
   obtain ⟨_, _, hat⟩ := World.cells?_some h1
   refine ⟨cs', y, hy, fun j u hu => ?_⟩
   have hj : j < R.size := by have := (List.getElem?_eq_some_iff.1 hu).1; rwa [R.len hy] at this
   have := hat j hj
   rw [add_of_add] at this
   exact this.trans hu
  have first : ∃ u, w.cell? a = some u := by
   obtain ⟨cs', y, hy, hat⟩ := key 0 (by omega)
   have hp := R.pos
   have hl : 0 < cs'.length := by rw [R.len hy]; exact hp
   have := hat 0 cs'[0] (jg hl)
   exact ⟨cs'[0], by simpa [Addr.add] using this⟩
  obtain ⟨u0, hu0⟩ := first
  have hbl := lt_of_cell hu0
  obtain ⟨b, o, q⟩ := a
  have hq : q = none := by
   cases q with
   | none => rfl
   | some q =>
     simp only [World.cell?] at hu0
     split at hu0 <;> cases hu0
  subst hq
  have list : ∀ k, k ≤ len → ∃ l : List α, l.length = k ∧ ∀ i y, l[i]? = some y → ∃ cs', R.rep w (fun g => g < w.heap.size) cs' y ∧ ∀ j u, cs'[j]? = some u → w.cell? ⟨b, o + i * R.size + j, none⟩ = some u := by
   intro k
   induction k with
   | zero => intro _; exact ⟨[], rfl, by simp⟩
   | succ k ih =>
     intro hk
     obtain ⟨l, hn, hl'⟩ := ih (by omega)
     obtain ⟨cs', y, hy, hat⟩ := key k (by omega)
     refine ⟨l ++ [y], by simp [hn], fun i y' hi' => ?_⟩
     by_cases hik : i < k
     ·rw [List.getElem?_append_left (by omega)] at hi'
      exact hl' i y' hi'
     ·rw [List.getElem?_append_right (by omega), hn] at hi'
      have : i = k := by
       have := (List.getElem?_eq_some_iff.1 hi').1
       simp at this; omega
      subst this
      simp at hi'
      subst hi'
      refine ⟨cs', hy, fun j u hu => ?_⟩
      have := hat j u hu
      rwa [add_off, ← Nat.add_assoc] at this
  obtain ⟨l, hn, hl'⟩ := list len (Nat.le_refl _)
  subst hn
  exact ⟨l, _, cap, hcs, hl, hcap', fun _ => ⟨b, o, rfl, hbl, hbl, hl'⟩⟩⟩
theorem opens_int : Opens IntR 3 := ⟨by kernel_rfl, fun H enc w base sp held fuel cs x hx => by
 obtain ⟨n, rfl, _, h⟩ := DataW.trod_int Tryz.underlying3 hx
 exact ⟨n, rfl, by have := h; simp only [Lit.wf, Bool.and_eq_true, decide_eq_true_eq, show IntKind.i64.min = -9223372036854775808 from by decide, show IntKind.i64.max = 9223372036854775807 from by decide] at this; omega⟩⟩
theorem opens_string : Opens StrR 9 := ⟨by kernel_rfl, fun H enc w base sp held fuel cs x hx => by
 obtain ⟨s, rfl, _, h⟩ := DataW.trod_string Tryz.underlying9 hx
 exact ⟨s, rfl, by unfold maxLen at h; omega⟩⟩
theorem opens_bool : Opens BoolR 4 := ⟨by kernel_rfl, fun H enc w base sp held fuel cs x hx => by
 obtain ⟨b, rfl, _⟩ := DataW.trod_bool Tryz.underlying4 hx
 exact ⟨b, rfl⟩⟩
end
theorem opens_strings : Opens StrR.sl 67 := opens_string.sl Tryz.underlying67 (by kernel_rfl)
theorem opens_stamp : Opens StampR 40 := Opens.via (fun s => ⟨s.1, s.2.1, s.2.2⟩) (fun _ => rfl) (OpensF.struct Tryz.underlying40 (by kernel_rfl) (by kernel_rfl) (opens_int.more (opens_int.more opens_int.one)))
theorem opens_tx : Opens TxR 42 := Opens.via (fun s => ⟨s.1, s.2.1, s.2.2⟩) (fun _ => rfl) (OpensF.struct Tryz.underlying42 (by kernel_rfl) (by kernel_rfl) (opens_int.more (opens_int.more opens_int.one)))
theorem opens_put : Opens PutR 69 := Opens.via (fun s => ⟨s.1, s.2.1, s.2.2⟩) (fun _ => rfl) (OpensF.struct Tryz.underlying69 (by kernel_rfl) (by kernel_rfl) (opens_string.more (opens_int.more opens_strings.one)))
theorem opens_puts : Opens PutR.sl 23 := opens_put.sl Tryz.underlying23 (by kernel_rfl)
theorem opens_batch : Opens BatchR 25 := Opens.via (fun s => ⟨s.1, s.2⟩) (fun _ => rfl) (OpensF.struct Tryz.underlying25 (by kernel_rfl) (by kernel_rfl) (opens_string.more opens_puts.one))
end Go.Proofs.YtcmjgghkmdbphaaGreatDoor
namespace Go.Proofs.YtcmjgghkmdbphaaGreatDoor
open Go.RowKit Go.ChangeShapes Go.WideShapes Go.Deep
structure PStep where
 kind : Int
 tx : Tx
 batch : Batch
 stamp : Stamp
 yes : Bool
 n : Int
def PStepR : Rep PStep := (IntR.cat (TxR.cat (BatchR.cat (StampR.cat (BoolR.cat IntR))))).via fun s => (s.kind, s.tx, s.batch, s.stamp, s.yes, s.n)
def PStep.cells (s : PStep) (A : Option Addr) (c : Nat) : List Value :=
 [.int .i64 s.kind, .int .i64 s.tx.node, .int .i64 s.tx.life, .int .i64 s.tx.num, .string s.batch.key, .slice A s.batch.puts.length c, .int .i64 s.stamp.wall, .int .i64 s.stamp.logic, .int .i64 s.stamp.node, .bool s.yes, .int .i64 s.n]
structure PStepAt (w : World) (P : Nat → Prop) (s : PStep) (A : Option Addr) (c : Nat) : Prop where
 kind : i64 s.kind
 tx : s.tx.fit
 key : sfit s.batch.key
 len : s.batch.puts.length ≤ c ∧ c ≤ 9223372036854775807
 puts : PutR.Row w P A s.batch.puts
 stamp : s.stamp.fit
 n : i64 s.n
theorem pstep_rep {w : World} {P : Nat → Prop} {cs : List Value} {s : PStep} : PStepR.rep w P cs s ↔ ∃ A c, cs = s.cells A c ∧ PStepAt w P s A c := by
 constructor
 ·rintro ⟨c1, c2, rfl, ⟨rfl, h1⟩, c3, c4, rfl, ht, c5, c6, rfl, hb, c7, c8, rfl, hs, c9, c10, rfl, rfl, ⟨rfl, h2⟩⟩
  obtain ⟨rfl, h3⟩ := tx_rep.1 ht
  obtain ⟨A, c, rfl, b1, b2, b3, b4⟩ := batch_rep.1 hb
  obtain ⟨rfl, h4⟩ := stamp_rep.1 hs
  exact ⟨A, c, rfl, ⟨h1, h3, b1, ⟨b2, b3⟩, b4, h4, h2⟩⟩
 ·rintro ⟨A, c, rfl, h⟩
  exact ⟨[_], _, rfl, ⟨rfl, h.kind⟩, _, _, rfl, tx_rep.2 ⟨rfl, h.tx⟩, _, _, rfl, batch_rep.2 ⟨A, c, rfl, h.key, h.len.1, h.len.2, h.puts⟩, _, _, rfl, stamp_rep.2 ⟨rfl, h.stamp⟩, [_], [_], rfl, rfl, ⟨rfl, h.n⟩⟩
theorem opens_pstep : Opens PStepR 130 := Opens.via (fun s => ⟨s.1, s.2.1, s.2.2.1, s.2.2.2.1, s.2.2.2.2.1, s.2.2.2.2.2⟩) (fun _ => rfl)
 (OpensF.struct Tryz.underlying130 (by kernel_rfl) (by kernel_rfl) (opens_int.more (opens_tx.more (opens_batch.more (opens_stamp.more (opens_bool.more opens_int.one))))))
theorem opens_psteps : Opens PStepR.sl 120 := opens_pstep.sl Tryz.underlying120 (by kernel_rfl)
theorem psteps_at {w : World} {P : Nat → Prop} {A : Option Addr} {l : List PStep} (h : PStepR.Row w P A l) {k : Nat} {s : PStep} (hk : l[k]? = some s) :
 ∃ b o B c, A = some ⟨b, o, none⟩ ∧ P b ∧ b < w.heap.size ∧ PStepAt w P s B c ∧ ∀ j u, (s.cells B c)[j]? = some u → w.cell? ⟨b, o + k * 11 + j, none⟩ = some u := by
 obtain ⟨b, o, cs, hA, hP, hb, hrep, hcs⟩ := h.at_ hk
 obtain ⟨B, c, rfl, hr⟩ := pstep_rep.1 hrep
 exact ⟨b, o, B, c, hA, hP, hb, hr, hcs⟩
def sizePs (l : List PStep) : Int := (l.map fun s => sizeB s.batch + 5).sum
def GotSmallP (l : List PStep) (e : Ending) : Prop := ∃ b : Bool, e = .returned (.bool b) ∧ (b = true → l.length ≤ 60 ∧ sizePs l ≤ 15000)
theorem small21_any (l : List PStep) (A : Option Addr) (c : Nat) (P : Nat → Prop) (w : World) (hr : PStepR.Row w P A l) (hc : l.length ≤ c ∧ c ≤ 9223372036854775807) :
 Calls Tryz.prog 62 #[.slice A l.length c] w fun e w' => GotSmallP l e ∧ Below w.heap.size w w' := by
 have HR := jh hr; clear hr
 have hl0 : (l.length : Int) ≤ 9223372036854775807 := by omega
 clear hc
 go_enter Tryz.func62, Tryz.ntmps62
 go_wp2_with fail
 go_loopw [3, 4] (fun x i wr => ∃ (k : Nat) (n : Int), k ≤ l.length ∧ i = .int .i64 k ∧ x = .int .i64 n ∧ 0 ≤ n ∧ n ≤ 15000 ∧ n = sizePs (l.take k) ∧ Below w.heap.size w wr) (fun _ i _ => l.length - (intOf i).toNat)
 case atStart => exact ⟨0, 0, Nat.zero_le _, rfl, rfl, by omega, by omega, by simp [sizePs], jb _ _⟩
 case round =>
  obtain ⟨k, n, hkl, rfl, rfl, hn0, hn1, hs, hbl⟩ := hrel
  have HS := jh (ja hs hbl); clear hs
  by_cases hlt : k < l.length
  ·have hlt' : (k : Int) < l.length := by omega
   have hlk := jg hlt
   have hts := take_snoc l k hlt
   obtain ⟨bb, o, B, bc, rfl, _, hbw, hrec, hcs⟩ := psteps_at (HR.out.same (js hbl) hbl.size) hlk
   generalize l[k] = r at *
   have C1 := sizeB_any r.batch B bc 15000 _ wr hrec.puts hrec.key ⟨by omega, by omega⟩
   have HTS := jh (ja hts (show ∀ j u, ([.string r.batch.key, .slice B r.batch.puts.length bc] : List Value)[j]? = some u → wr.cell? ⟨bb, o + k * 11 + 4 + j, none⟩ = some u from fun j u hj => by
    match j, hj with
    | 0, h => exact hcs 4 u h
    | 1, h => exact hcs 5 u h
    | j + 2, h => cases h))
   clear hlk hts hrec hcs hbl
   go_wp2_with (first
    | ((with_reducible refine wpList_load_at rfl rfl ?_ HTS.out.2 Tryz.underlying25 rfl (by kernel_rfl) ?_); · rfl)
    | fail)
   refine C1.mono ?_
   clear C1
   rintro e w1 ⟨⟨t, rfl, ht0, ht1, ht⟩, hb1⟩
   have HT := jh ht
   have hb2 := hb1.al (.cells #[.int .i64 t, .int .i64 5] 3)
   have C2 := sum_any n [t, 5] w1.heap.size (w1.alloc (.cells #[.int .i64 t, .int .i64 5] 3)) (Blk.new w1 3 [.int .i64 t, .int .i64 5]) ⟨by omega, by omega⟩ (by simp; omega) (by simp)
   have HB2 := jh (HS.out.2.tr hb2)
   clear ht hb1 hb2
   go_wp2_with fail
   refine C2.mono ?_
   clear C2
   rintro e w2 ⟨⟨n2, rfl, hn20, hn21, hn2⟩, rfl⟩
   have HN2 := jh hn2
   clear hn2
   by_cases hle : (15000 : Int) < n2
   ·go_wp2_with fail
    go_ret
    exact ⟨⟨false, rfl, fun h => by cases h⟩, HB2.out⟩
   ·go_wp2_with fail
    go_round
    case rel =>
     refine ⟨k + 1, n2, by omega, by go_num, rfl, hn20, by omega, ?_, HB2.out⟩
     have h1 := HN2.out (by omega)
     simp only [List.sum_cons, List.sum_nil] at h1
     have h2 := HT.out (by omega)
     have h3 := HS.out.1
     unfold sizePs at h3 ⊢
     rw [HTS.out.1, List.map_append, List.sum_append]
     simp only [List.sum_cons, List.sum_nil, List.map_cons, List.map_nil]
     omega
    case measure => (simp [intOf]; omega)
  ·have hkn : k = l.length := by omega
   subst hkn
   clear hbl
   have HZ := jh (show sizePs l ≤ 15000 from by have := HS.out.1; rw [List.take_length] at this; omega)
   by_cases hle : (l.length : Int) ≤ 60
   ·go_wp2_with fail
    go_ret
    exact ⟨⟨true, rfl, fun _ => ⟨by omega, HZ.out⟩⟩, HS.out.2⟩
   ·go_wp2_with fail
    go_ret
    exact ⟨⟨false, rfl, fun h => by cases h⟩, HS.out.2⟩
end Go.Proofs.YtcmjgghkmdbphaaGreatDoor
namespace Go.Proofs.YtcmjgghkmdbphaaGreatDoor
open Go.RowKit
theorem rsound_any (A : Option Addr) (c : Nat) (l : List Range) (P : Nat → Prop) (w : World) (hr : RangeR.Row w P A l) (hs : soundR l = true) :
 Calls Tryz.prog 241 #[.slice A l.length c] w fun e w' => e = .returned (.bool true) ∧ Below w.heap.size w w' := by
 have HR := jh hr; clear hr
 have HL := jh (sound_iff.1 hs); clear hs
 go_enter Tryz.func241, Tryz.ntmps241
 go_wp2_with fail
 go_loopw [3, 4] (fun nx i wr => ∃ (k : Nat) (n : Int), k ≤ l.length ∧ i = .int .i64 k ∧ nx = .int .i64 n ∧ 0 ≤ n ∧ soundFrom (l.drop k) n = some 4294967296 ∧ Below w.heap.size w wr) (fun _ i _ => l.length - (intOf i).toNat)
 case atStart => exact ⟨0, 0, Nat.zero_le _, rfl, rfl, by omega, HL.out.1, jb _ _⟩
 case round =>
  obtain ⟨k, n, hk, rfl, rfl, hn0, hs, hbl⟩ := hrel
  have HS := jh hs; clear hs
  by_cases hlt : k < l.length
  ·have hlk := jg hlt
   have hd := soundFrom_drop l k n hlt
   generalize l[k] = x at hlk hd
   obtain ⟨b, o, cs, rfl, hP, hbw, hrep, hcs⟩ := (HR.out.ext hbl).at_ hlk
   obtain ⟨rfl, hf⟩ := range_rep.1 hrep
   have hok : (x.first = n ∧ n ≤ x.last ∧ x.last ≤ 4294967295 ∧ ownedB x = true) ∧ soundFrom (l.drop (k + 1)) (x.last + 1) = some 4294967296 := by
    have h1 := HS.out
    rw [hd] at h1
    split at h1
    ·rename_i h2; exact ⟨h2, h1⟩
    ·cases h1
   obtain ⟨⟨h1, h2, h3, h4⟩, h5⟩ := hok
   obtain ⟨h6, h7, h8, h9⟩ := ownedB_iff.1 h4
   subst h1
   have HD := jh (ja (show 0 ≤ x.last + 1 by omega) (ja h3 h5))
   have c0 := hcs 0 _ rfl; have c1 := hcs 1 _ rfl; have c2 := hcs 2 _ rfl; have c3 := hcs 3 _ rfl; simp only [RangeR_size, Nat.add_zero] at c0 c1 c2 c3
   clear hd hcs hrep hlk h4 h5
   have hlt' : (k : Int) < l.length := by omega
   have hbx := (jb wr.heap.size wr).al (.cells #[.int .i64 x.first, .int .i64 x.last, .int .i64 x.owner, .int .i64 x.epoch] 27)
   have hWK : Hid (wrap64 ((k : Int) + 1) = ((k + 1 : Nat) : Int)) := jh (by have := HL.out.2; rw [wrap_in _ (by omega)]; rfl)
   have hxw : Hid (wrap64 (x.last + 1) = x.last + 1) := jh (wrap_in _ (by have := hf; omega))
   have g2 : decide (x.last < x.first) = false := jd (by omega)
   have g3 : decide (4294967295 < x.last) = false := jd (by omega)
   have g4 : decide (x.owner < 1) = false := jd (by omega)
   have g5 : decide (5 < x.owner) = false := jd (by omega)
   have g6 : decide (x.epoch < 1) = false := jd (by omega)
   have g7 : decide (1099511627776 < x.epoch) = false := jd (by omega)
   clear h2 h3 h6 h7 h8 h9
   go_wp2_with fail
   go_round
   case rel =>
    exact ⟨k + 1, x.last + 1, by omega, by rw [hWK.out], by rw [hxw.out], HD.out.1, HD.out.2.2, hbl.tr hbx⟩
   case measure => rw [hWK.out]; simp [intOf]; omega
  ·have hkn : k = l.length := by omega
   subst hkn
   have hs := HS.out
   rw [List.drop_length] at hs
   have hn1 : n = 4294967296 := by injection hs
   clear hs
   subst hn1
   have h64' : (l.length : Int) ≤ 64 := by have := HL.out.2; omega
   go_wp2_with fail
   go_ret
   exact ⟨rfl, hbl⟩
theorem rfind_any (A : Option Addr) (c : Nat) (l : List Range) (h : Int) (P : Nat → Prop) (w : World) (hr : RangeR.Row w P A l) (hs : soundR l = true) (h0 : 0 ≤ h) (h1 : h < 4294967296) :
 Calls Tryz.prog 162 #[.slice A l.length c, .int .i64 h] w fun e w' => e = .returned (Found (findR l h).1 (findR l h).2) ∧ Below w.heap.size w w' := by
 have hb0 := (jb w.heap.size w).al (.cells #[.int .i64 0, .int .i64 0, .int .i64 0, .int .i64 0] 27)
 have B0 := Blk.new w 27 [.int .i64 0, .int .i64 0, .int .i64 0, .int .i64 0]
 have CS := rsound_any A c l P (w.alloc (.cells #[.int .i64 0, .int .i64 0, .int .i64 0, .int .i64 0] 27)) (hr.ext hb0) hs
 have HR := jh (hr.mono (Q := fun g => g < w.heap.size) fun g _ h => h); clear hr
 have HS := jh (ja hs (ja h0 h1)); clear hs h0 h1
 go_enter Tryz.func162, Tryz.ntmps162
 go_wp2_with fail
 refine CS.mono ?_
 clear CS
 rintro e w1 ⟨rfl, hb1⟩
 have H1 := jh (ja (hb0.tr hb1) (B0.ext hb1))
 clear B0 hb0 hb1
 go_wp2_with fail
 go_loopw [6] (fun i wr => ∃ k : Nat, k ≤ l.length ∧ i = .int .i64 k ∧ (∀ x ∈ l.take k, x.has h = false) ∧ Below w.heap.size w wr ∧ Blk wr w.heap.size 27 [.int .i64 0, .int .i64 0, .int .i64 0, .int .i64 0]) (fun i _ => l.length - (intOf i).toNat)
 case atStart => exact ⟨0, Nat.zero_le _, rfl, by simp, H1.out.1, H1.out.2⟩
 case round =>
  obtain ⟨k, hk, rfl, hno, hw1, B1⟩ := hrel
  have HNO := jh hno; clear hno
  by_cases hlt : k < l.length
  ·have hlk := jg hlt
   have hmem : l[k] ∈ l := List.getElem_mem hlt
   have htk : l.take (k + 1) = l.take k ++ [l[k]] := (List.take_append_getElem hlt).symm
   generalize l[k] = x at hlk hmem htk
   obtain ⟨b, o, cs, rfl, hP, hbw, hrep, hcs⟩ := (HR.out.ext hw1).at_ hlk
   obtain ⟨rfl, hf⟩ := range_rep.1 hrep
   have c0 := hcs 0 _ rfl; have c1 := hcs 1 _ rfl; have c2 := hcs 2 _ rfl; have c3 := hcs 3 _ rfl; simp only [RangeR_size, Nat.add_zero] at c0 c1 c2 c3
   have HB := jh B1
   have HM := jh (ja hmem htk)
   have hWK : Hid (wrap64 ((k : Int) + 1) = ((k + 1 : Nat) : Int)) := jh (by have := (sound_iff.1 HS.out.1).2; rw [wrap_in _ (by omega)]; rfl)
   clear hrep hcs hlk hmem htk
   have hlt' : (k : Int) < l.length := by omega
   have hne : b ≠ w.heap.size := by omega
   have hcase : (x.first ≤ h ∧ h ≤ x.last) ∨ (x.first ≤ h ∧ ¬ h ≤ x.last) ∨ ¬ x.first ≤ h := by omega
   rcases hcase with ⟨g1, g2⟩ | ⟨g1, g2⟩ | g1
   ·have HF := jh (find_eq HS.out.1 HS.out.2.1 HS.out.2.2 HM.out.1 (has_iff.2 ⟨g1, g2⟩))
    have f0 := B1.frozen 0
    have f1 := B1.frozen 1
    have f2 := B1.frozen 2
    have f3 := B1.frozen 3
    have b0 := B1.cell 0
    have b1 := B1.cell 1
    have b2 := B1.cell 2
    have b3 := B1.cell 3
    simp only [List.getElem?_cons_zero, List.getElem?_cons_succ] at b0 b1 b2 b3
    clear B1
    go_wp2_with fail
    rw [HF.out]
    exact bodyPost_ret (results_blk_tmp rfl _ ((((HB.out.set_ 0 (.int .i64 x.first)).set_ 1 (.int .i64 x.last)).set_ 2 (.int .i64 x.owner)).set_ 3 (.int .i64 x.epoch)) rfl Tryz.underlying27 rfl (by kernel_rfl)) rfl ⟨rfl, (((hw1.st (Nat.le_refl _) _).st (Nat.le_refl _) _).st (Nat.le_refl _) _).st (Nat.le_refl _) _⟩
   ·have g2' : decide (h ≤ x.last) = false := jd g2
    have HX := jh (show x.has h = false from by rw [← Bool.not_eq_true, has_iff]; exact fun a => g2 a.2)
    clear g2
    go_wp2_with fail
    go_round
    case rel =>
     refine ⟨k + 1, by omega, by rw [hWK.out], ?_, hw1, HB.out⟩
     rw [HM.out.2]
     intro y hy
     rcases List.mem_append.1 hy with hy | hy
     ·exact HNO.out y hy
     ·rw [List.mem_singleton.1 hy]; exact HX.out
    case measure => rw [hWK.out]; simp [intOf]; omega
   ·have g1' : decide (x.first ≤ h) = false := jd g1
    have HX := jh (show x.has h = false from by rw [← Bool.not_eq_true, has_iff]; exact fun a => g1 a.1)
    clear g1
    go_wp2_with fail
    go_round
    case rel =>
     refine ⟨k + 1, by omega, by rw [hWK.out], ?_, hw1, HB.out⟩
     rw [HM.out.2]
     intro y hy
     rcases List.mem_append.1 hy with hy | hy
     ·exact HNO.out y hy
     ·rw [List.mem_singleton.1 hy]; exact HX.out
    case measure => rw [hWK.out]; simp [intOf]; omega
  ·exfalso
   have hkn : k = l.length := by omega
   subst hkn
   obtain ⟨x, hx, hh⟩ := soundFrom_cover (sound_iff.1 HS.out.1).1 HS.out.2.1 HS.out.2.2
   have := HNO.out x (by rw [List.take_length]; exact hx)
   rw [hh] at this; cases this
end Go.Proofs.YtcmjgghkmdbphaaGreatDoor
