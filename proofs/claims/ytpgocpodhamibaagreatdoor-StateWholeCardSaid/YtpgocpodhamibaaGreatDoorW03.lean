/- DERIVED: THE SHELF's CONTRACTS AT THIS DUMP, IN PLAIN WORDS (tools/lay-plain.mjs out of 'YtpgocpodhamibaaGreatDoorSmRaw.lean', which tools/lay-shelf.mjs wrote): THE SAME DECLARATIONS UNDER THE SAME NAMES: 'import', 'namespace', 'open', 'def', 'theorem' AND NOTHING ELSE: no command of the shelf's: FOR A HAND-IN. Each laying: the table of numbers ('.._ren') and one theorem, a field a fact of the dump's own or the kernel's comparison; each contract: ONE APPLICATION. slices.SortFunc at transactions. A row of transactions, sorted: the slice still owns it. slices.SortedFunc over the keys of a map at transactions. maps.Keys at transactions: the iterator over no map. slices.SortedFunc over a map that holds nothing; state.Held of a state that holds nothing. StateWhole: what the law's walk looks at. -/
import Derived.Shelf.SlGeneric
import Derived.Shelf.SlSortCmp.WholeK
import Derived.Ground.SlsfProg
import Derived.Test.YtpgocpodhamibaaGreatDoorProg
import Derived.Test.YtpgocpodhamibaaGreatDoorW02
import Derived.Sort.OwnSorted
import Derived.Shelf.SlSortCmp.NoneTotal
import Derived.Test.YtpgocpodhamibaaGreatDoorK11
import Derived.Test.YtpgocpodhamibaaGreatDoorW01
import Derived.Test.YtpgocpodhamibaaGreatDoorL02
namespace Go.Proofs
open Go.Shelf
def Tryz.sortTx_ren : Go.Shelf.Ren := ⟨fun | 6 => 199 | 15 => 261 | 14 => 260 | 28 => 295 | 29 => 296 | 20 => 287 | 21 => 288 | 22 => 289 | 23 => 290 | 24 => 291 | 25 => 292 | 26 => 293 | 27 => 294 | 46 => 308 | 47 => 309 | 48 => 310 | 49 => 311 | 50 => 312 | 57 => 318 | n => n, fun | 22 => 81 | 24 => 34 | 25 => 174 | 3 => 3 | 39 => 324 | 0 => 0 | 53 => 260 | 55 => 273 | 4 => 4 | 46 => 347 | 45 => 346 | 50 => 351 | 5 => 5 | 9 => 9 | 66 => 361 | 70 => 143 | 76 => 373 | 77 => 374 | n => n, fun | n => n⟩
theorem Tryz.sortTx : Go.Proofs.SlLaysF0.n6 Tryz.prog Tryz.sortTx_ren := {
  mixed := by kernel_rfl
  f6 := ⟨Tryz.f199.name, by decide, Tryz.func199.trans (congrArg some (by kernel_rfl))⟩
  f14 := ⟨Tryz.f260.name, by decide, Tryz.func260.trans (congrArg some (by kernel_rfl))⟩
  f15 := Tryz.func261.trans (congrArg some (by kernel_rfl))
  f20 := ⟨Tryz.f287.name, by decide, Tryz.func287.trans (congrArg some (by kernel_rfl))⟩
  f21 := ⟨Tryz.f288.name, by decide, Tryz.func288.trans (congrArg some (by kernel_rfl))⟩
  f22 := ⟨Tryz.f289.name, by decide, Tryz.func289.trans (congrArg some (by kernel_rfl))⟩
  f23 := ⟨Tryz.f290.name, by decide, Tryz.func290.trans (congrArg some (by kernel_rfl))⟩
  f24 := ⟨Tryz.f291.name, by decide, Tryz.func291.trans (congrArg some (by kernel_rfl))⟩
  f25 := ⟨Tryz.f292.name, by decide, Tryz.func292.trans (congrArg some (by kernel_rfl))⟩
  f26 := ⟨Tryz.f293.name, by decide, Tryz.func293.trans (congrArg some (by kernel_rfl))⟩
  f27 := ⟨Tryz.f294.name, by decide, Tryz.func294.trans (congrArg some (by kernel_rfl))⟩
  f28 := Tryz.func295.trans (congrArg some (by kernel_rfl))
  f29 := Tryz.func296.trans (congrArg some (by kernel_rfl))
  f46 := ⟨Tryz.f308.name, by decide, Tryz.func308.trans (congrArg some (by kernel_rfl))⟩
  f47 := Tryz.func309.trans (congrArg some (by kernel_rfl))
  f48 := Tryz.func310.trans (congrArg some (by kernel_rfl))
  f49 := ⟨Tryz.f311.name, by decide, Tryz.func311.trans (congrArg some (by kernel_rfl))⟩
  f50 := ⟨Tryz.f312.name, by decide, Tryz.func312.trans (congrArg some (by kernel_rfl))⟩
  f57 := ⟨Tryz.f318.name, by decide, Tryz.func318.trans (congrArg some (by kernel_rfl))⟩
  t0 := Tryz.underlying0
  a0 := Tryz.isAgg0
  z0 := Tryz.sizeOf0
  v0 := Tryz.zeroValue0
  t3 := Tryz.underlying3
  a3 := Tryz.isAgg3
  z3 := Tryz.sizeOf3
  v3 := Tryz.zeroValue3
  t4 := Tryz.underlying4
  a4 := Tryz.isAgg4
  z4 := Tryz.sizeOf4
  v4 := Tryz.zeroValue4
  t5 := Tryz.underlying5
  a5 := Tryz.isAgg5
  z5 := Tryz.sizeOf5
  v5 := Tryz.zeroValue5
  t9 := Tryz.underlying9
  a9 := Tryz.isAgg9
  z9 := Tryz.sizeOf9
  v9 := Tryz.zeroValue9
  t22 := Tryz.underlying81
  a22 := Tryz.isAgg81
  z22 := Tryz.sizeOf81
  v22 := Tryz.zeroValue81
  t25 := Tryz.underlying174
  a25 := Tryz.isAgg174
  z25 := Tryz.sizeOf174
  v25 := Tryz.zeroValue174
  t39 := Tryz.underlying324
  a39 := Tryz.isAgg324
  z39 := Tryz.sizeOf324
  v39 := Tryz.zeroValue324
  t45 := Tryz.underlying346
  a45 := Tryz.isAgg346
  z45 := Tryz.sizeOf346
  v45 := Tryz.zeroValue346
  t46 := Tryz.underlying347
  a46 := Tryz.isAgg347
  z46 := Tryz.sizeOf347
  v46 := Tryz.zeroValue347
  t50 := Tryz.underlying351
  a50 := Tryz.isAgg351
  z50 := Tryz.sizeOf351
  v50 := Tryz.zeroValue351
  t53 := Tryz.underlying260
  a53 := Tryz.isAgg260
  z53 := Tryz.sizeOf260
  v53 := Tryz.zeroValue260
  t55 := Tryz.underlying273
  a55 := Tryz.isAgg273
  z55 := Tryz.sizeOf273
  v55 := Tryz.zeroValue273
  t66 := Tryz.underlying361
  a66 := Tryz.isAgg361
  z66 := Tryz.sizeOf361
  v66 := Tryz.zeroValue361
  t70 := Tryz.underlying143
  a70 := Tryz.isAgg143
  z70 := Tryz.sizeOf143
  v70 := Tryz.zeroValue143
  t76 := Tryz.underlying373
  a76 := Tryz.isAgg373
  z76 := Tryz.sizeOf373
  v76 := Tryz.zeroValue373
  t77 := Tryz.underlying374
  a77 := Tryz.isAgg374
  z77 := Tryz.sizeOf374
  v77 := Tryz.zeroValue374 }
end Go.Proofs
namespace Go.Proofs.YtpgocpodhamibaaGreatDoor
open Go.RowKit Go.Shelf Go.Sort

theorem enters_order : ∀ args w, (callFunc 120 args).run Tryz.prog w = .ok (.enter 120 args) w := enters_of Tryz.func120 (by kernel_rfl) rfl
theorem sortTx_any (blk off cap : Nat) (d : Array Tx) (w : World) (hH : HoldsK Tx.cells 3 w blk off d) (hblk : blk < w.heap.size) (hsz : d.size < 4611686018427387904) :
    Calls Tryz.prog 199 #[.slice (some ⟨blk, off, none⟩) d.size cap, .func (.func 120) #[] #[]] w fun e w' =>
      e = .returned (.tuple #[]) ∧ ∃ d' n os, PermIn 0 d.size d d' ∧ SortedIn (ltOf orderT) 0 d.size d' ∧ w' = sortWorldK Tx.cells 3 w blk off n d' os :=
  AnyQ.slices_SortFunc Tryz.sortTx 3 Tryz.isAgg34 Tryz.sizeOf34 Tx.cells (fun _ => rfl) (fun x v hv => by simp [Tx.cells] at hv; rcases hv with rfl | rfl | rfl <;> rfl) orderT order_swo 120 #[] blk off cap d w enters_order (order_lays blk off d.size w) hH hblk hsz
end Go.Proofs.YtpgocpodhamibaaGreatDoor
namespace Go.Proofs.YtpgocpodhamibaaGreatDoor
open Go.RowKit Go.Shelf Go.Sort

theorem flat_len (ts : List Tx) : (ts.flatMap Tx.cells).length = ts.length * 3 := by
  induction ts with
  | nil => rfl
  | cons t ts ih => rw [List.flatMap_cons, List.length_append, ih]; simp [Tx.cells]; omega
theorem flat_get : ∀ (ts : List Tx) (t : Nat), t < ts.length * 3 → (ts.flatMap Tx.cells)[t]? = some ((ts[t / 3]!).cells[t % 3]!)
  | [], t, h => by simp at h
  | x :: ts, t, h => by
    rw [List.flatMap_cons]
    by_cases h3 : t < 3
    · rw [List.getElem?_append_left (by simpa [Tx.cells] using h3), Nat.div_eq_of_lt h3, Nat.mod_eq_of_lt h3]
      obtain rfl | rfl | rfl : t = 0 ∨ t = 1 ∨ t = 2 := by omega
      all_goals rfl
    · have hl : x.cells.length = 3 := rfl
      rw [List.getElem?_append_right (by omega), hl, flat_get ts (t - 3) (by simp at h; omega)]
      obtain ⟨u, rfl⟩ : ∃ u, t = u + 3 := ⟨t - 3, by omega⟩
      rw [Nat.add_sub_cancel, Nat.add_mod_right, Nat.add_div_right u (by decide)]
      simp
theorem flatK_tx (ts : List Tx) : flatK Tx.cells 3 ts.toArray = (ts.flatMap Tx.cells).toArray := by
  apply Array.ext
  · rw [size_flatK, List.size_toArray, List.size_toArray, flat_len]
  · intro t h1 h2
    have h : t < ts.length * 3 := by simpa using h1
    have e1 := get_flatK Tx.cells 3 ts.toArray t (by simpa using h)
    have e2 := flat_get ts t h
    rw [getElem!_pos _ t h1] at e1
    rw [e1]
    have e3 : ((ts.flatMap Tx.cells).toArray)[t]? = some ((ts[t / 3]!).cells[t % 3]!) := by simpa using e2
    rw [Array.getElem?_eq_getElem h2] at e3
    rw [Option.some.inj e3]
    simp
theorem holdsK_tx {w : World} {g : Nat} {e : TypeId} {cur : Array Value} {ss : List Tx} (hb : w.heap[g]? = some (.cells cur e (0, 0))) (hc : cur.toList.take (ss.length * 3) = ss.flatMap Tx.cells) : HoldsK Tx.cells 3 w g 0 ss.toArray := by
  intro j hj
  rw [flatK_tx] at hj ⊢
  have hj' : j < ss.length * 3 := by rwa [List.size_toArray, flat_len] at hj
  have h1 : (ss.flatMap Tx.cells)[j]? = cur[j]? := by rw [← hc, List.getElem?_take_of_lt hj', Array.getElem?_toList]
  have h2 := flat_get ss j hj'
  constructor
  · rw [getElem!_pos _ j hj]
    simp only [Nat.zero_add, World.cell?, hb]
    rw [← h1]
    simp
  · simp [World.frozen?, hb]
theorem heap_sortedT {w : World} {g n : Nat} {os : Array Obj} {cur : Array Value} {e : TypeId} (F : Array Value) (hb : w.heap[g]? = some (.cells cur e (0, 0))) :
    (grow (putRow id (Sort.ahead w n) g 0 F) os).heap[g]? = some (.cells (putCells id 0 F cur) e (0, 0)) := by
  have hg : g < w.heap.size := (Array.getElem?_eq_some_iff.1 hb).1
  rw [heap_grow_old _ _ (by simpa using hg)]
  simp [putRow, mapBlock, Sort.ahead, Array.getElem?_modify, hb, onCells]
theorem grownBy_sortedT {w : World} {g n : Nat} {os : Array Obj} (F : Array Value) : w.grownBy (grow (putRow id (Sort.ahead w n) g 0 F) os) (some g) := by
  refine ⟨rfl, rfl, rfl, by simp, fun k hk hne => ?_⟩
  rw [heap_grow_old _ _ (by simpa using hk)]
  have : g ≠ k := fun e => hne (by rw [e])
  simp [putRow, mapBlock, Sort.ahead, Array.getElem?_modify, this]
theorem take_putT (cur F : Array Value) (h : F.size ≤ cur.size) : (putCells id 0 F cur).toList.take F.size = F.toList := by
  apply List.ext_getElem?
  intro j
  by_cases hj : j < F.size
  · rw [List.getElem?_take_of_lt hj, Array.getElem?_toList, Array.getElem?_toList]
    simp [putCells, hj, show j < cur.size by omega]
  · rw [List.getElem?_take_eq_none (by omega), List.getElem?_eq_none (by simp; omega)]
theorem ownsRow_sortedT {w : World} {base g cap n : Nat} {e : TypeId} {os : Array Obj} {cur : Array Value} {ss ts : List Tx} (hl : ts.length = ss.length) (hbase : base ≤ g) (hb : w.heap[g]? = some (.cells cur e (0, 0)))
    (h1 : ss.length ≤ cap) (h2 : cap ≤ maxLen) (h3 : cur.size = cap * 3) :
    (sortWorldK Tx.cells 3 w g 0 n ts.toArray os).ownsRow base e 3 (.slice (some ⟨g, 0, none⟩) ss.length cap) ss.length (ts.flatMap Tx.cells) ∧ w.grownBy (sortWorldK Tx.cells 3 w g 0 n ts.toArray os) (some g) := by
  unfold sortWorldK putRowK
  rw [flatK_tx]
  have hs : (ts.flatMap Tx.cells).toArray.size = ss.length * 3 := by rw [List.size_toArray, flat_len, hl]
  refine ⟨⟨by rw [flat_len, hl], .inr ⟨g, cap, _, rfl, hbase, heap_sortedT _ hb, h1, h2, by simp [putCells, h3], ?_⟩⟩, grownBy_sortedT _⟩
  rw [← hs]
  exact take_putT cur _ (by rw [hs, h3]; omega)
end Go.Proofs.YtpgocpodhamibaaGreatDoor
namespace Go.Proofs.YtpgocpodhamibaaGreatDoor
open Go.RowKit Go.Shelf Go.Sort

/-- Transactions in some order, of the call's own. -/
def GotTxs (B : Nat) (l : List Tx) (e : Ending) (w' : World) : Prop := ∃ (v : Value) (ts : List Tx), e = .returned v ∧ ts.Perm l ∧ w'.ownsRow B 34 3 v ts.length (ts.flatMap Tx.cells)
set_option maxHeartbeats 800000 in
theorem sortedH_any (bx m : Nat) (ps : List (Tx × Value)) (w : World) (hx : bx < w.heap.size) (hb : w.cell? ⟨bx, 0, none⟩ = some (.map (some m))) (h : MapAt txE w m ps) (hl : ps.length ≤ 1000000) (h0 : ps ≠ []) :
    Calls Tryz.prog 118 #[.func (.func 200) #[] #[.pointer (some ⟨bx, 0, none⟩)], .func (.func 120) #[] #[]] w fun e w' => GotTxs w.heap.size (ps.map (·.1)) e w' ∧ Below w.heap.size w w' := by
  have C1 := collectH_any bx m ps w hx hb h hl
  clear hb h
  go_enter Tryz.func118, Tryz.ntmps118
  go_wp2_with fail
  refine C1.mono ?_
  clear C1
  rintro e w1 ⟨v, ss, rfl, hp, hrow, hnil, hb1⟩
  have hne : v ≠ .slice none 0 0 := fun e => h0 (by
    have := hnil.1 e
    subst this
    have := hp.length_eq
    simp at this
    exact List.eq_nil_of_length_eq_zero this.symm)
  obtain ⟨hrl, ⟨rfl, _⟩ | ⟨g, cap, cur, rfl, hg1, hg2, hg3, hg4, hg5, hg6⟩⟩ := hrow
  · exact absurd rfl hne
  · have hgl : g < w1.heap.size := (Array.getElem?_eq_some_iff.1 hg2).1
    have C2 := sortTx_any g 0 cap ss.toArray w1 (holdsK_tx hg2 hg6) hgl (by have := hp.length_eq; simp at this ⊢; omega)
    rw [List.size_toArray] at C2
    have H1 := Lib.hid (And.intro hp (And.intro hb1 (And.intro hg1 (And.intro hg2 (And.intro hg3 (And.intro hg4 hg5))))))
    clear hp hnil hb1 hne hrl hg1 hg2 hg3 hg4 hg5 hg6 hgl
    go_wp2_with fail
    refine C2.mono ?_
    clear C2
    rintro e w2 ⟨rfl, d', n, os, hpi, hsi, hw2⟩
    have H2 := Lib.hid (And.intro hpi hw2)
    clear hpi hsi hw2
    go_wp2_with fail
    go_ret
    obtain ⟨hp, hb1, hg1, hg2, hg3, hg4, hg5⟩ := H1.out
    obtain ⟨⟨hz, _, hpm⟩, rfl⟩ := H2.out
    have hl2 : d'.toList.length = ss.length := by simpa using hz
    have hpt : d'.toList.Perm ss := by
      have e1 : d'.extract 0 ss.length = d' := by rw [← hl2, Array.length_toList]; exact Array.extract_size
      have e2 : ss.toArray.extract 0 ss.length = ss.toArray := by rw [← List.size_toArray]; exact Array.extract_size
      rw [e1, e2] at hpm
      simpa using hpm
    have O := ownsRow_sortedT (ts := d'.toList) (n := n) (os := os) hl2 hg1 hg2 hg3 hg4 hg5
    rw [Array.toArray_toList] at O
    exact ⟨⟨_, d'.toList, rfl, hpt.trans hp, by rw [hl2]; exact O.1⟩, hb1.grown O.2 hb1.size (fun k e => by cases e; exact hg1)⟩
set_option maxHeartbeats 800000 in
theorem sortedO_any (bx m : Nat) (ps : List (Tx × Value)) (w : World) (hx : bx < w.heap.size) (hb : w.cell? ⟨bx, 0, none⟩ = some (.map (some m))) (h : MapAt txE w m ps) (hl : ps.length ≤ 1000000) (h0 : ps ≠ []) :
    Calls Tryz.prog 118 #[.func (.func 205) #[] #[.pointer (some ⟨bx, 0, none⟩)], .func (.func 120) #[] #[]] w fun e w' => GotTxs w.heap.size (ps.map (·.1)) e w' ∧ Below w.heap.size w w' := by
  have C1 := collectO_any bx m ps w hx hb h hl
  clear hb h
  go_enter Tryz.func118, Tryz.ntmps118
  go_wp2_with fail
  refine C1.mono ?_
  clear C1
  rintro e w1 ⟨v, ss, rfl, hp, hrow, hnil, hb1⟩
  have hne : v ≠ .slice none 0 0 := fun e => h0 (by
    have := hnil.1 e
    subst this
    have := hp.length_eq
    simp at this
    exact List.eq_nil_of_length_eq_zero this.symm)
  obtain ⟨hrl, ⟨rfl, _⟩ | ⟨g, cap, cur, rfl, hg1, hg2, hg3, hg4, hg5, hg6⟩⟩ := hrow
  · exact absurd rfl hne
  · have hgl : g < w1.heap.size := (Array.getElem?_eq_some_iff.1 hg2).1
    have C2 := sortTx_any g 0 cap ss.toArray w1 (holdsK_tx hg2 hg6) hgl (by have := hp.length_eq; simp at this ⊢; omega)
    rw [List.size_toArray] at C2
    have H1 := Lib.hid (And.intro hp (And.intro hb1 (And.intro hg1 (And.intro hg2 (And.intro hg3 (And.intro hg4 hg5))))))
    clear hp hnil hb1 hne hrl hg1 hg2 hg3 hg4 hg5 hg6 hgl
    go_wp2_with fail
    refine C2.mono ?_
    clear C2
    rintro e w2 ⟨rfl, d', n, os, hpi, hsi, hw2⟩
    have H2 := Lib.hid (And.intro hpi hw2)
    clear hpi hsi hw2
    go_wp2_with fail
    go_ret
    obtain ⟨hp, hb1, hg1, hg2, hg3, hg4, hg5⟩ := H1.out
    obtain ⟨⟨hz, _, hpm⟩, rfl⟩ := H2.out
    have hl2 : d'.toList.length = ss.length := by simpa using hz
    have hpt : d'.toList.Perm ss := by
      have e1 : d'.extract 0 ss.length = d' := by rw [← hl2, Array.length_toList]; exact Array.extract_size
      have e2 : ss.toArray.extract 0 ss.length = ss.toArray := by rw [← List.size_toArray]; exact Array.extract_size
      rw [e1, e2] at hpm
      simpa using hpm
    have O := ownsRow_sortedT (ts := d'.toList) (n := n) (os := os) hl2 hg1 hg2 hg3 hg4 hg5
    rw [Array.toArray_toList] at O
    exact ⟨⟨_, d'.toList, rfl, hpt.trans hp, by rw [hl2]; exact O.1⟩, hb1.grown O.2 hb1.size (fun k e => by cases e; exact hg1)⟩
end Go.Proofs.YtpgocpodhamibaaGreatDoor
namespace Go.Proofs.YtpgocpodhamibaaGreatDoor
open Go.RowKit Go.ChangeMaps

set_option maxRecDepth 100000 in
set_option maxHeartbeats 1000000 in
theorem keysNilH_in (F : Fence) (n : Nat) (h10 : F.fn 200) (hro : F.round = none) (l Bm : Nat) (J : List Tx → World → Prop)
    (W : World) (hJ : AbidesFrom W.heap.size J) (hm : W.cell? ⟨Bm, 0, none⟩ = some (.map none)) (h0 : J [] W) :
    CallsIn F n Tryz.prog 200 #[.func (.yield l) #[] #[], .pointer (some ⟨Bm, 0, none⟩)] W fun e W' => (∃ v, e = .returned v) ∧ ∃ xs : List Tx, xs = [] ∧ J xs W' := by
  refine callsIn_of_wp Tryz.func200 rfl h10 ?_ hro
  simp only [Tryz.ntmps200, List.size_toArray, List.length_cons, List.length_nil, Nat.reduceAdd, Nat.reduceSub, Array.replicate_succ, Array.replicate_zero, List.push_toArray, List.append_toArray, List.nil_append, List.cons_append]
  gi_wp2_with (first
    | (gi_at_range; refine wpListIn_range_nil rfl (.tmp 4) 137 rfl Tryz.underlying137 rfl ?_; intro w0 hit0 hb0 hs0)
    | gi_in)
  go_frame
  gi_loopw [3] (fun _ wr => wr = w0) (fun _ _ => 0)
  case atStart => rfl
  case round =>
    obtain rfl := hrel
    gi_wp2_with (first
      | (gi_at_next; refine wpListIn_next_nil rfl (.tmp 5) rfl rfl hit0 ?_)
      | gi_in)
    go_end0
    exact ⟨⟨_, rfl⟩, [], rfl, hJ [] W _ none h0 (below_grown hb0) (fun r e => by cases e)⟩
theorem collectNilH_any (bx : Nat) (w : World) (hx : bx < w.heap.size) (hb : w.cell? ⟨bx, 0, none⟩ = some (.map none)) :
    Calls Tryz.prog 198 #[.func (.func 200) #[] #[.pointer (some ⟨bx, 0, none⟩)]] w fun e w' => e = .returned (.slice none 0 0) ∧ Below w.heap.size w w' := by
  have hseq : SeqGives Fence.wide (5 - 1 - 1) Tryz.prog 200 #[.pointer (some ⟨bx, 0, none⟩)] txE (fun xs : List Tx => xs = []) 0 w := fun l J W hW hJ hY h0 =>
    keysNilH_in Fence.wide _ trivial rfl l bx J W hJ ((hW.cell (p := ⟨bx, 0, none⟩) hx).trans hb) h0
  refine (callsIn_wide.1 (collectT_in Fence.wide 5 trivial trivial rfl (by omega) 200 #[.pointer (some ⟨bx, 0, none⟩)] trivial (enters_of Tryz.func200 (by kernel_rfl) rfl) _ 0 (by omega) w hseq)).mono ?_
  rintro e w' ⟨v, ss, rfl, rfl, _, hnil, hb⟩
  exact ⟨by rw [hnil.2 rfl], hb⟩
set_option maxRecDepth 100000 in
set_option maxHeartbeats 1000000 in
theorem keysNilO_in (F : Fence) (n : Nat) (h10 : F.fn 205) (hro : F.round = none) (l Bm : Nat) (J : List Tx → World → Prop)
    (W : World) (hJ : AbidesFrom W.heap.size J) (hm : W.cell? ⟨Bm, 0, none⟩ = some (.map none)) (h0 : J [] W) :
    CallsIn F n Tryz.prog 205 #[.func (.yield l) #[] #[], .pointer (some ⟨Bm, 0, none⟩)] W fun e W' => (∃ v, e = .returned v) ∧ ∃ xs : List Tx, xs = [] ∧ J xs W' := by
  refine callsIn_of_wp Tryz.func205 rfl h10 ?_ hro
  simp only [Tryz.ntmps205, List.size_toArray, List.length_cons, List.length_nil, Nat.reduceAdd, Nat.reduceSub, Array.replicate_succ, Array.replicate_zero, List.push_toArray, List.append_toArray, List.nil_append, List.cons_append]
  gi_wp2_with (first
    | (gi_at_range; refine wpListIn_range_nil rfl (.tmp 4) 138 rfl Tryz.underlying138 rfl ?_; intro w0 hit0 hb0 hs0)
    | gi_in)
  go_frame
  gi_loopw [3] (fun _ wr => wr = w0) (fun _ _ => 0)
  case atStart => rfl
  case round =>
    obtain rfl := hrel
    gi_wp2_with (first
      | (gi_at_next; refine wpListIn_next_nil rfl (.tmp 5) rfl rfl hit0 ?_)
      | gi_in)
    go_end0
    exact ⟨⟨_, rfl⟩, [], rfl, hJ [] W _ none h0 (below_grown hb0) (fun r e => by cases e)⟩
theorem collectNilO_any (bx : Nat) (w : World) (hx : bx < w.heap.size) (hb : w.cell? ⟨bx, 0, none⟩ = some (.map none)) :
    Calls Tryz.prog 198 #[.func (.func 205) #[] #[.pointer (some ⟨bx, 0, none⟩)]] w fun e w' => e = .returned (.slice none 0 0) ∧ Below w.heap.size w w' := by
  have hseq : SeqGives Fence.wide (5 - 1 - 1) Tryz.prog 205 #[.pointer (some ⟨bx, 0, none⟩)] txE (fun xs : List Tx => xs = []) 0 w := fun l J W hW hJ hY h0 =>
    keysNilO_in Fence.wide _ trivial rfl l bx J W hJ ((hW.cell (p := ⟨bx, 0, none⟩) hx).trans hb) h0
  refine (callsIn_wide.1 (collectT_in Fence.wide 5 trivial trivial rfl (by omega) 205 #[.pointer (some ⟨bx, 0, none⟩)] trivial (enters_of Tryz.func205 (by kernel_rfl) rfl) _ 0 (by omega) w hseq)).mono ?_
  rintro e w' ⟨v, ss, rfl, rfl, _, hnil, hb⟩
  exact ⟨by rw [hnil.2 rfl], hb⟩
end Go.Proofs.YtpgocpodhamibaaGreatDoor
namespace Go.Proofs.YtpgocpodhamibaaGreatDoor
open Go.RowKit Go.Shelf Go.Sort

theorem sortNone_any (F : Value) (w : World) : Calls Tryz.prog 199 #[.slice none 0 0, F] w fun e w' => e = .returned (.tuple #[]) ∧ w' = w := AnyF.slices_SortFunc_none Tryz.sortTx none 0 F w
theorem collectNoH_any (mb : Option Nat) (w : World) (h : MapV w (.map mb) []) : Calls Tryz.prog 198 #[.func (.func 200) #[] #[.pointer (some ⟨w.heap.size, 0, none⟩)]] (w.alloc (.cells #[.map mb] 137)) fun e w' =>
    e = .returned (.slice none 0 0) ∧ Below (w.alloc (.cells #[.map mb] 137)).heap.size (w.alloc (.cells #[.map mb] 137)) w' := by
  have h1 := h.ext ((Below.refl w.heap.size w).al (.cells #[.map mb] 137))
  have hx : w.heap.size < (w.alloc (.cells #[.map mb] 137)).heap.size := by simp
  have hb : (w.alloc (.cells #[.map mb] 137)).cell? ⟨w.heap.size, 0, none⟩ = some (.map mb) := (Blk.new w 137 [.map mb]).cell 0
  rcases h1 with ⟨e, _⟩ | ⟨m, e, hM⟩
  · injection e with e
    subst e
    exact collectNilH_any w.heap.size _ hx hb
  · injection e with e
    subst e
    refine (collectH_any w.heap.size m [] _ hx hb hM (by simp)).mono ?_
    rintro e w' ⟨v, ss, rfl, hp, _, hn, hb'⟩
    have hs : ss = [] := by simpa using hp.length_eq
    exact ⟨by rw [hn.2 hs], hb'⟩
set_option maxHeartbeats 800000 in
theorem sortedNoH_any (mb : Option Nat) (w : World) (h : MapV w (.map mb) []) : Calls Tryz.prog 118 #[.func (.func 200) #[] #[.pointer (some ⟨w.heap.size, 0, none⟩)], .func (.func 120) #[] #[]] (w.alloc (.cells #[.map mb] 137)) fun e w' =>
    e = .returned (.slice none 0 0) ∧ Below w.heap.size w w' := by
  have C1 := collectNoH_any mb w h
  have hb0 := (Below.refl w.heap.size w).al (.cells #[.map mb] 137)
  clear h
  go_enter Tryz.func118, Tryz.ntmps118
  go_wp2_with fail
  refine C1.mono ?_
  clear C1
  rintro e w1 ⟨rfl, hb1⟩
  have C2 := sortNone_any (.func (.func 120) #[] #[]) w1
  have H := Lib.hid (hb0.tr hb1)
  clear hb0 hb1
  go_wp2_with fail
  refine C2.mono ?_
  clear C2
  rintro e w2 ⟨rfl, rfl⟩
  go_wp2_with fail
  go_ret
  exact ⟨rfl, H.out⟩
theorem collectNoO_any (mb : Option Nat) (w : World) (h : MapV w (.map mb) []) : Calls Tryz.prog 198 #[.func (.func 205) #[] #[.pointer (some ⟨w.heap.size, 0, none⟩)]] (w.alloc (.cells #[.map mb] 138)) fun e w' =>
    e = .returned (.slice none 0 0) ∧ Below (w.alloc (.cells #[.map mb] 138)).heap.size (w.alloc (.cells #[.map mb] 138)) w' := by
  have h1 := h.ext ((Below.refl w.heap.size w).al (.cells #[.map mb] 138))
  have hx : w.heap.size < (w.alloc (.cells #[.map mb] 138)).heap.size := by simp
  have hb : (w.alloc (.cells #[.map mb] 138)).cell? ⟨w.heap.size, 0, none⟩ = some (.map mb) := (Blk.new w 138 [.map mb]).cell 0
  rcases h1 with ⟨e, _⟩ | ⟨m, e, hM⟩
  · injection e with e
    subst e
    exact collectNilO_any w.heap.size _ hx hb
  · injection e with e
    subst e
    refine (collectO_any w.heap.size m [] _ hx hb hM (by simp)).mono ?_
    rintro e w' ⟨v, ss, rfl, hp, _, hn, hb'⟩
    have hs : ss = [] := by simpa using hp.length_eq
    exact ⟨by rw [hn.2 hs], hb'⟩
set_option maxHeartbeats 800000 in
theorem sortedNoO_any (mb : Option Nat) (w : World) (h : MapV w (.map mb) []) : Calls Tryz.prog 118 #[.func (.func 205) #[] #[.pointer (some ⟨w.heap.size, 0, none⟩)], .func (.func 120) #[] #[]] (w.alloc (.cells #[.map mb] 138)) fun e w' =>
    e = .returned (.slice none 0 0) ∧ Below w.heap.size w w' := by
  have C1 := collectNoO_any mb w h
  have hb0 := (Below.refl w.heap.size w).al (.cells #[.map mb] 138)
  clear h
  go_enter Tryz.func118, Tryz.ntmps118
  go_wp2_with fail
  refine C1.mono ?_
  clear C1
  rintro e w1 ⟨rfl, hb1⟩
  have C2 := sortNone_any (.func (.func 120) #[] #[]) w1
  have H := Lib.hid (hb0.tr hb1)
  clear hb0 hb1
  go_wp2_with fail
  refine C2.mono ?_
  clear C2
  rintro e w2 ⟨rfl, rfl⟩
  go_wp2_with fail
  go_ret
  exact ⟨rfl, H.out⟩
set_option maxHeartbeats 1600000 in
theorem heldNo_any (g : Nat) (s : St) (P : Nat → Prop) (w : World) (h : StAt w P g s) (hs : s.self ≠ 0) (h0 : s.held = []) : Calls Tryz.prog 44 #[ptrV g] w fun e w' => e = .returned (.slice none 0 0) ∧ Below w.heap.size w w' := by
  obtain ⟨v, hB, hI⟩ := h
  obtain ⟨LA, hMV, _, hl⟩ := hI.held.mapV
  have hLA : LA = [] := by
    rw [h0] at hl
    exact List.map_eq_nil_iff.1 hl.symm
  subst hLA
  have C1 := gone_any g s.self w (hB.cell 0) hs
  have b6 : w.cell? ⟨g, 6, none⟩ = some v.held := hB.cell 6
  obtain ⟨mb, hv⟩ : ∃ mb, v.held = .map mb := by
    rcases hMV with ⟨e, _⟩ | ⟨m, e, _⟩
    · exact ⟨_, e⟩
    · exact ⟨_, e⟩
  rw [hv] at b6 hMV
  have C2 := keysH_any mb w
  have C3 := sortedNoH_any mb w hMV
  clear hB hI hMV hv hl h0
  unfold ptrV at C1 ⊢
  go_enter Tryz.func44, Tryz.ntmps44
  go_wp2_with fail
  refine C1.mono ?_
  clear C1
  rintro e w' ⟨rfl, rfl⟩
  go_wp2_with fail
  refine C2.mono ?_
  clear C2 b6
  rintro e w1 ⟨rfl, rfl⟩
  go_wp2_with fail
  refine C3.mono ?_
  clear C3
  rintro e w2 ⟨rfl, hb2⟩
  go_wp2_with fail
  go_loopw [2, 14] (fun o i wr => o = .slice none 0 0 ∧ i = .int .i64 0 ∧ wr = w2) (fun _ _ _ => 0)
  case atStart => exact ⟨rfl, rfl, rfl⟩
  case round =>
    obtain ⟨rfl, rfl, rfl⟩ := hrel
    go_wp2_with fail
    go_ret
    exact ⟨rfl, hb2⟩
end Go.Proofs.YtpgocpodhamibaaGreatDoor
namespace Go.Proofs.YtpgocpodhamibaaGreatDoor
open Go.RowKit

/-- A batch that is handed in. -/
structure BatIn (w : World) (b : Batch) (A : Option Addr) (c : Nat) : Prop where
  key : sfit b.key
  cap : b.puts.length ≤ c ∧ c ≤ 9223372036854775807
  row : PutR.Row w (fun k => k < w.heap.size) A b.puts
def batC (b : Batch) (A : Option Addr) (c : Nat) : List Value := [.string b.key, .slice A b.puts.length c]
/-- Two batches in boxes. -/
structure WhB (w : World) (b o : Batch) (A A' : Option Addr) (c c' : Nat) (W : World) : Prop where
  x : Blk W w.heap.size 32 [.string b.key, .slice A b.puts.length c]
  y : Blk W (w.heap.size + 1) 32 [.string o.key, .slice A' o.puts.length c']
  r : PutR.Row W (fun k => k < w.heap.size) A b.puts
  q : PutR.Row W (fun k => k < w.heap.size) A' o.puts
  tabs : Tabs W
  below : Below w.heap.size w W
  size : w.heap.size + 2 ≤ W.heap.size
section
variable {w : World} {b o : Batch} {A A' : Option Addr} {c c' : Nat} {W W' : World}
theorem WhB.start (h1 : BatIn w b A c) (h2 : BatIn w o A' c') (hT : Tabs w) : WhB w b o A A' c c' ((w.alloc (.cells #[.string b.key, .slice A b.puts.length c] 32)).alloc (.cells #[.string o.key, .slice A' o.puts.length c'] 32)) := by
  have hb := ((Below.refl w.heap.size w).al (.cells #[.string b.key, .slice A b.puts.length c] 32)).al (.cells #[.string o.key, .slice A' o.puts.length c'] 32)
  exact ⟨(Blk.new w 32 [.string b.key, .slice A b.puts.length c]).alloc (.cells #[.string o.key, .slice A' o.puts.length c'] 32), Blk.new1 w _ 32 [.string o.key, .slice A' o.puts.length c'], h1.row.ext hb, h2.row.ext hb, hT.below hb, hb, by simp⟩
theorem WhB.ext (h : WhB w b o A A' c c' W) (hb : Below W.heap.size W W') : WhB w b o A A' c c' W' :=
  ⟨h.x.ext hb, h.y.ext hb, h.r.ext hb, h.q.ext hb, h.tabs.below hb, h.below.tr hb, by have := hb.size; have := h.size; omega⟩
theorem WhB.only {g : Nat} (h : WhB w b o A A' c c' W) (hO : Only (· = g) W W') (hg : w.heap.size + 2 ≤ g) : WhB w b o A A' c c' W' :=
  ⟨h.x.only hO (by intro e; have e' : w.heap.size = g := e; omega), h.y.only hO (by intro e; have e' : w.heap.size + 1 = g := e; omega),
   h.r.same (Same.of_only hO fun k hk e => by have e' : k = g := e; omega) hO.size, h.q.same (Same.of_only hO fun k hk e => by have e' : k = g := e; omega) hO.size,
   h.tabs.only hO (by intro e; have e' : 0 = g := e; omega) (by intro e; have e' : 1 = g := e; omega), h.below.trans (hO.low (fun k e => by have e' : k = g := e; omega) (by have := h.size; omega)), by have := hO.size; have := h.size; omega⟩
end
theorem StAt.ext {w w' : World} {P : Nat → Prop} {g : Nat} {s : St} (h : StAt w P g s) (hb : Below w.heap.size w w') : StAt w' P g s := by
  obtain ⟨v, a, k⟩ := h
  exact ⟨v, a.ext hb, k.same (Same.of_below hb)⟩
theorem StAt.mono {w : World} {P Q : Nat → Prop} {g : Nat} {s : St} (h : StAt w P g s) (hs : ∀ k, P k → Q k) : StAt w Q g s := by
  obtain ⟨v, a, k⟩ := h
  exact ⟨v, a, k.mono hs⟩
theorem str_ext {a b : Str} (h : a.toList = b.toList) : a = b := by
  rw [ByteArray.toList_eq, ByteArray.toList_eq] at h
  obtain ⟨⟨x⟩⟩ := a
  obtain ⟨⟨y⟩⟩ := b
  simp at h
  simp [h]
theorem len_lenL (l : List Str) : (l.length : Int) ≤ lenL l := by
  unfold lenL
  have := sum_mono (l := l.map fun s => (s.size : Int)) (by simp) 0
  simp only [List.take_zero, List.sum_nil] at this
  omega
theorem sizeP_bd (p : Put) : (p.data.length : Int) ≤ sizeP p := by
  have := len_lenL p.data
  unfold sizeP; omega
theorem sumP_bd : ∀ l : List Put, (sumD l : Int) ≤ (l.map sizeP).sum ∧ ∀ p ∈ l, (p.data.length : Int) ≤ (l.map sizeP).sum
  | [] => ⟨by simp [sumD], by simp⟩
  | p :: l => by
    obtain ⟨h1, h2⟩ := sumP_bd l
    have h3 := sizeP_bd p
    have h4 : (0 : Int) ≤ (sumD l : Int) := Int.natCast_nonneg _
    have h5 : (0 : Int) ≤ (p.data.length : Int) := Int.natCast_nonneg _
    have e : sumD (p :: l) = p.data.length + sumD l := by simp [sumD]
    rw [List.map_cons, List.sum_cons, e]
    refine ⟨by omega, fun q hq => ?_⟩
    rcases List.mem_cons.1 hq with rfl | hq
    · omega
    · have := h2 q hq; omega
theorem sizeB_bd {b : Batch} (h : sizeB b ≤ 5000) : b.puts.length ≤ 5000 ∧ (∀ p ∈ b.puts, p.data.length ≤ 5000) ∧ sumD b.puts ≤ 5000 := by
  obtain ⟨h1, h2⟩ := sumP_bd b.puts
  unfold sizeB at h
  have h4 : (0 : Int) ≤ (sumD b.puts : Int) := Int.natCast_nonneg _
  exact ⟨by omega, fun p hp => by have := h2 p hp; omega, by omega⟩
theorem sumD_take {l : List Put} {k : Nat} (h : k < l.length) : sumD (l.take (k + 1)) = sumD (l.take k) + l[k].data.length := by
  rw [take_snoc l k h]; unfold sumD; rw [List.map_append, List.sum_append]; simp
theorem sumD_tk (l : List Put) (k : Nat) : sumD (l.take k) ≤ sumD l := by
  have h : sumD l = sumD (l.take k) + sumD (l.drop k) := by
    conv => lhs; rw [← List.take_append_drop k l]
    unfold sumD; rw [List.map_append, List.sum_append]
  omega
/-- Have two batches a stream in common? -/
def SharedB (b o : Batch) : Prop := ∃ p ∈ b.puts, ∃ q ∈ o.puts, p.stream = q.stream
theorem wholeP_fair {b : Batch} (h : sizeB b ≤ 5000) : (wholeP b).Fair := by
  obtain ⟨h1, h2, _⟩ := sizeB_bd h
  exact ⟨by show b.puts.length ≤ _; omega, fun p hp => by have := h2 p hp; omega, by show (0 : Nat) ≤ _; omega, by show (0 : Nat) ≤ _; omega, by show (0 : Nat) ≤ _; omega, fun s hs => by cases hs⟩
theorem wholeC_fair {b : Batch} (h : sizeB b ≤ 5000) : (wholeC b).Fair := by
  obtain ⟨h1, h2, _⟩ := sizeB_bd h
  exact ⟨by show b.puts.length ≤ _; omega, fun p hp => by have := h2 p hp; omega, by show (0 : Nat) ≤ _; omega, by show (0 : Nat) ≤ _; omega, by show (0 : Nat) ≤ _; omega, fun s hs => by cases hs⟩
theorem wholeD_fair (y : Bool) : (wholeD y).Fair := ⟨by show (0 : Nat) ≤ _; omega, fun p hp => (by cases hp), by show (0 : Nat) ≤ _; omega, by show (0 : Nat) ≤ _; omega, by show (0 : Nat) ≤ _; omega, fun s hs => by cases hs⟩
section
variable {w : World} {P : Nat → Prop} {b : Batch} {A : Option Addr} {c : Nat}
theorem wholeP_at (hk : sfit b.key) (hc : b.puts.length ≤ c ∧ c ≤ 9223372036854775807) (hr : PutR.Row w P A b.puts) : RecAt w P (wholeP b) none 0 A c none 0 :=
  ⟨i64_small 4 (by omega), i64_small 0 (by omega), i64_small 0 (by omega), ⟨i64_small 5 (by omega), i64_small 0 (by omega), i64_small 1 (by omega)⟩, ⟨i64_small 1 (by omega), i64_small 1 (by omega), i64_small 1 (by omega)⟩, ⟨Nat.le_refl _, by decide, Rep.Row.nil_⟩,
   hk, ⟨hc.1, hc.2, hr⟩, ⟨i64_small 0 (by omega), i64_small 0 (by omega), i64_small 0 (by omega), i64_small 0 (by omega)⟩, ⟨Nat.le_refl _, by decide, Rep.Row.nil_⟩⟩
theorem wholeC_at (hk : sfit b.key) (hc : b.puts.length ≤ c ∧ c ≤ 9223372036854775807) (hr : PutR.Row w P A b.puts) : RecAt w P (wholeC b) none 0 A c none 0 :=
  ⟨i64_small 3 (by omega), i64_small 0 (by omega), i64_small 0 (by omega), ⟨i64_small 6 (by omega), i64_small 0 (by omega), i64_small 1 (by omega)⟩, ⟨i64_small 0 (by omega), i64_small 0 (by omega), i64_small 0 (by omega)⟩, ⟨Nat.le_refl _, by decide, Rep.Row.nil_⟩,
   hk, ⟨hc.1, hc.2, hr⟩, ⟨i64_small 0 (by omega), i64_small 0 (by omega), i64_small 0 (by omega), i64_small 0 (by omega)⟩, ⟨Nat.le_refl _, by decide, Rep.Row.nil_⟩⟩
theorem wholeD_at (y : Bool) : RecAt w P (wholeD y) none 0 none 0 none 0 := by
  cases y
  · exact ⟨i64_small 5 (by omega), i64_small 0 (by omega), i64_small 0 (by omega), ⟨i64_small 0 (by omega), i64_small 0 (by omega), i64_small 0 (by omega)⟩, ⟨i64_small 1 (by omega), i64_small 1 (by omega), i64_small 1 (by omega)⟩, ⟨Nat.le_refl _, by decide, Rep.Row.nil_⟩,
      (by show (0 : Nat) ≤ _; omega), ⟨Nat.le_refl _, by decide, Rep.Row.nil_⟩, ⟨i64_small 0 (by omega), i64_small 0 (by omega), i64_small 0 (by omega), i64_small 0 (by omega)⟩, ⟨Nat.le_refl _, by decide, Rep.Row.nil_⟩⟩
  · exact ⟨i64_small 5 (by omega), i64_small 0 (by omega), i64_small 0 (by omega), ⟨i64_small 7 (by omega), i64_small 0 (by omega), i64_small 1 (by omega)⟩, ⟨i64_small 1 (by omega), i64_small 1 (by omega), i64_small 1 (by omega)⟩, ⟨Nat.le_refl _, by decide, Rep.Row.nil_⟩,
      (by show (0 : Nat) ≤ _; omega), ⟨Nat.le_refl _, by decide, Rep.Row.nil_⟩, ⟨i64_small 0 (by omega), i64_small 0 (by omega), i64_small 0 (by omega), i64_small 0 (by omega)⟩, ⟨Nat.le_refl _, by decide, Rep.Row.nil_⟩⟩
end
end Go.Proofs.YtpgocpodhamibaaGreatDoor
