/- maps.Keys at transactions: the iterator. slices.Collect at transactions. The keys of a map at transactions, collected. state.order: the order of transactions. DERIVED: THE SHELF's CONTRACTS AT THIS DUMP, IN PLAIN WORDS (tools/lay-plain.mjs out of 'YtcmjgghkmdbphaaGreatDoorSmRaw.lean', which tools/lay-shelf.mjs wrote): THE SAME DECLARATIONS UNDER THE SAME NAMES: 'import', 'namespace', 'open', 'def', 'theorem' AND NOTHING ELSE: no command of the shelf's: FOR A HAND-IN. Each laying: the table of numbers ('.._ren') and one theorem, a field a fact of the dump's own or the kernel's comparison; each contract: ONE APPLICATION. slices.SortFunc at transactions. A row of transactions, sorted: the slice still owns it. slices.SortedFunc over the keys of a map at transactions. maps.Keys at transactions: the iterator over no map. slices.SortedFunc over a map that holds nothing; state.Held of a state that holds nothing. state.Apply for any record, in one. -/
import Derived.Test.YtcmjgghkmdbphaaGreatDoorG20
import Derived.Test.YtcmjgghkmdbphaaGreatDoorG08
import Derived.RangeFuncGives
import Derived.WalkKit
import Derived.OwnWalkIn
import Derived.TacticsInMore
import Derived.RegionIn
import Derived.LoopNIn
import Derived.LoopIn
import Derived.Shelf.SlIter.Collect
import Derived.Test.YtcmjgghkmdbphaaGreatDoorG17
import Derived.Test.YtcmjgghkmdbphaaGreatDoorG16
import Derived.Shelf.SlSortCmp.WholeK
import Derived.Shelf.SlGeneric
import Derived.Ground.SlsfProg
import Derived.Test.YtcmjgghkmdbphaaGreatDoorProg
import Derived.Sort.OwnSorted
import Derived.Shelf.SlSortCmp.NoneTotal
import Derived.Test.YtcmjgghkmdbphaaGreatDoorG18
import Derived.Test.YtcmjgghkmdbphaaGreatDoorG19
import Derived.Test.YtcmjgghkmdbphaaGreatDoorG04
set_option maxRecDepth 20000
set_option maxHeartbeats 25600000
namespace Go.Proofs.YtcmjgghkmdbphaaGreatDoor
open Go.RowKit Go.ChangeMaps
theorem cons_erase_perm {α : Type} : ∀ (l : List α) (i : Nat) (x : α), l[i]? = some x → (x :: l.eraseIdx i).Perm l
 | [], i, x, h => by simp at h
 | a :: l, 0, x, h => by
   simp at h; subst h
   exact List.Perm.refl _
 | a :: l, i + 1, x, h => by
   simp at h
   rw [List.eraseIdx_cons_succ]
   exact (List.Perm.swap a x _).trans ((cons_erase_perm l i x h).cons a)
theorem Only.grownBy {w w' : World} {it : Nat} (h : Only (· = it) w w') : w.grownBy w' (some it) := ⟨h.os, h.tape, h.output, h.size, fun g hg hn => h.block g hg (fun e => hn (by rw [e]))⟩
theorem below_grown {w w' : World} (h : Below w.heap.size w w') : w.grownBy w' none := ⟨h.os, h.tape, h.output, h.size, fun g hg _ => h.block g hg⟩
theorem IterAt.walk {κ : Type} {enc : κ → Value} {w : World} {it m : Nat} {left : List (κ × Value)} (h : IterAt enc w it m left) : ∃ o : Obj, w.heap[it]? = some o ∧ o.isWalk = true := by
 obtain ⟨es, clk, since, c0, seen, hm, hi, _⟩ := h
 exact ⟨_, hi, rfl⟩
theorem IterAt.walks {κ : Type} {enc : κ → Value} {w w' : World} {it m : Nat} {left : List (κ × Value)} (h : IterAt enc w it m left) (hk : KeepsWalks w w') : IterAt enc w' it m left := by
 obtain ⟨es, clk, since, c0, seen, hm, hi, r⟩ := h
 exact ⟨es, clk, since, c0, seen, hk.same _ _ hm rfl, hk.same _ _ hi rfl, r⟩
set_option maxRecDepth 100000 in
theorem keysH_in (F : Fence) (n : Nat) (h10 : F.fn 223) (hro : F.round = none) (hn : 1 ≤ n) (l Bm m : Nat) (ps : List (Tx × Value)) (J : List Tx → World → Prop)
 (hY : ∀ pre x W, J pre W → pre.length < ps.length → YieldAt F (n - 1) Tryz.prog l #[txE x] W fun e W' => e = .returned (.bool true) ∧ J (pre ++ [x]) W' ∧ KeepsWalks W W')
 (W : World) (hJ : AbidesFrom W.heap.size J) (hm : W.cell? ⟨Bm, 0, none⟩ = some (.map (some m))) (hown : MapAt txE W m ps) (h0 : J [] W) :
 CallsIn F n Tryz.prog 223 #[.func (.yield l) #[] #[], .pointer (some ⟨Bm, 0, none⟩)] W fun e W' => (∃ v, e = .returned v) ∧ ∃ xs : List Tx, xs.Perm (ps.map (·.1)) ∧ J xs W' := by
 refine callsIn_of_wp Tryz.func223 rfl h10 ?_ hro
 simp only [Tryz.ntmps223, List.size_toArray, List.length_cons, List.length_nil, Nat.reduceAdd, Nat.reduceSub, Array.replicate_succ, Array.replicate_zero, List.push_toArray, List.append_toArray, List.nil_append, List.cons_append]
 gi_wp2_with (first
  | (gi_at_range; refine wpListIn_range_map rfl (.tmp 4) 172 rfl Tryz.underlying172 rfl hown ?_; intro w0 hit0 hb0 hs0)
  | gi_in)
 go_frame
 have HY := jh (ja hY hJ)
 clear hY hJ
 gi_loopw [3] (fun _ wr => ∃ (left : List (Tx × Value)) (ss : List Tx), IterAt txE wr W.heap.size m left ∧ (ss ++ left.map (·.1)).Perm (ps.map (·.1)) ∧ J ss wr)
  (fun _ wr => leftLen wr W.heap.size m)
 case atStart =>
  exact ⟨ps, [], hit0, List.Perm.refl _, HY.out.2 [] W w0 none h0 (below_grown hb0) (fun r e => by cases e)⟩
 case round =>
  obtain ⟨left, ss, hit, hp, hJs⟩ := hrel
  have HP := jh hp
  have HL := jh (show leftLen wr W.heap.size m = left.length from hit.len)
  clear hp
  gi_wp2_with (first
   | (gi_at_next; refine wpListIn_next_map rfl (.tmp 5) rfl rfl hit ?_ ?_)
   | gi_in)
  ·intro hl0
   subst hl0
   gi_wp2
   go_end0
   exact ⟨⟨_, rfl⟩, ss, by have := HP.out; simpa using this, hJs⟩
  ·intro i x v w2 hi hit2 hO2 hs2 hen
   have hlen := HP.out.length_eq
   have hil : i < left.length := (List.getElem?_eq_some_iff.1 hi).1
   have hJ2 : J ss w2 := HY.out.2 ss wr w2 (some W.heap.size) hJs hO2.grownBy (fun r e => by cases e; exact ⟨Nat.le_refl _, hit.walk⟩)
   have hJ3 : J ss (w2.alloc (.cells #[.int .i64 x.node, .int .i64 x.life, .int .i64 x.num] 42)) := HY.out.2 ss w2 _ none hJ2 (below_grown ((jb w2.heap.size w2).al _)) (fun r e => by cases e)
   obtain ⟨fn, tmps, assign, body, hy, hR⟩ := HY.out.1 ss x _ hJ3 (by simp only [List.length_append, List.length_map] at hlen; omega)
   replace hen := hen w2 rfl rfl
   have ex : txE x = .agg #[.int .i64 x.node, .int .i64 x.life, .int .i64 x.num] := rfl
   rw [ex] at hen hy ⊢
   clear ex
   have HC := jh (ja hlen (ja hi hit2))
   clear hlen hi hs2 hO2 hit hJs hJ2
   clear hJ3
   gi_wp2
   refine hR.mono ?_
   rintro e W3 ⟨rfl, hJ4, hk3⟩
   have hit3 := (HC.out.2.2.walks (KeepsWalks.alloc w2 _)).walks hk3
   have hl3 : leftLen W3 W.heap.size m = left.length - 1 := by rw [hit3.len, List.length_eraseIdx, if_pos hil]
   have H3 := jh (ja hit3 hl3)
   clear hit3 hl3 hk3
   gi_wp2
   go_roundw
   case rel =>
    refine ⟨left.eraseIdx i, ss ++ [x], H3.out.1, ?_, hJ4⟩
    refine List.Perm.trans ?_ HP.out
    rw [List.append_assoc]
    refine List.Perm.append_left ss ?_
    have h := HC.out.2.1
    rw [map_erase]
    have hx : (left.map (·.1))[i]? = some x := by rw [List.getElem?_map, h]; rfl
    exact cons_erase_perm _ i x hx
   case measure =>
    rw [H3.out.2, HL.out]
    omega
theorem keysH_gives (F : Fence) (n : Nat) (h10 : F.fn 223) (hro : F.round = none) (hn : 1 ≤ n) (Bm m : Nat) (ps : List (Tx × Value)) (w : World) (hBm : Bm < w.heap.size)
 (hm : w.cell? ⟨Bm, 0, none⟩ = some (.map (some m))) (hown : MapAt txE w m ps) :
 SeqGives F n Tryz.prog 223 #[.pointer (some ⟨Bm, 0, none⟩)] txE (fun xs => xs.Perm (ps.map (·.1))) ps.length w := fun l J W hW hJ hY h0 =>
 keysH_in F n h10 hro hn l Bm m ps J hY W hJ ((hW.cell (p := ⟨Bm, 0, none⟩) hBm).trans hm) (hown.ext hW) h0
end Go.Proofs.YtcmjgghkmdbphaaGreatDoor
namespace Go.Proofs.YtcmjgghkmdbphaaGreatDoor
open Go.RowKit Go.Shelf
theorem tx_info : (Tryz.prog.info? 42).map (fun i => (i.zero, i.size, i.bytes)) = some (some (.agg #[.int .i64 0, .int .i64 0, .int .i64 0]), 3, 24) := by kernel_rfl
def loopOf : Option Code → Code × Code
 | some (.seq _ (.seq (.seq _ (.block _ (.rangeFunc _ _ a b))) _)) => (a, b)
 | _ => (.skip, .skip)
noncomputable def apRec (fn : FuncId) (sv : Value) (Bs D : Nat) (st : LoopState) (pend : Option Code) : Loop :=
 { state := st, pending := pend, fn, tmps := #[.slice none 0 0, sv, .pointer (some ⟨Bs, 0, none⟩), undef, .slice none 0 0, undef, sv, undef, undef, undef, undef, undef, undef], params := #[7], assign := (loopOf (Func.body Tryz.f284)).1, body := (loopOf (Func.body Tryz.f284)).2, defers := D }
structure ApAt (w0 : World) (fn : FuncId) (sv : Value) (Bs l D : Nat) (ss : List Tx) (W : World) : Prop where
 box : ∃ v, W.heap[Bs]? = some (.cells #[v] 62 (0, 0)) ∧ W.ownsRow w0.heap.size 42 3 v ss.length (ss.flatMap Tx.cells) ∧ (v = .slice none 0 0 ↔ ss = [])
 L : W.heap[l]? = some (.loop (apRec fn sv Bs D .ready none))
 K : W.heap[D]? = some (.deferred (some []))
 below : Below w0.heap.size w0 W
theorem ap_abides (w0 : World) (fn : FuncId) (sv : Value) (Bs l D B : Nat) (hB : w0.heap.size ≤ B) : AbidesFrom B (ApAt w0 fn sv Bs l D) := fun s W W' row h hg hrow => by
 have hrow' : ∀ r, row = some r → ∃ o : Obj, W.heap[r]? = some o ∧ o.isWalk = true := fun r e => (hrow r e).2
 obtain ⟨v, hv, hr, hn⟩ := h.box
 exact ⟨⟨v, (grownBy_keeps hg hrow' hv rfl).trans hv, ownsRow_abides_a hr hg hrow', hn⟩, (grownBy_keeps hg hrow' h.L rfl).trans h.L, (grownBy_keeps hg hrow' h.K rfl).trans h.K,
  h.below.grown hg h.below.size (fun k e => Nat.le_trans hB (hrow k e).1)⟩
set_option maxRecDepth 100000 in
theorem apYield (F : Fence) (m : Nat) (w0 : World) (fn : FuncId) (hfn : F.fn fn) (sv : Value) (Bs l D : Nat) (hBl : Bs ≠ l) (hDl : D ≠ l) (hDB : D ≠ Bs) (h0B : w0.heap.size ≤ Bs) (h0l : w0.heap.size ≤ l)
 (N : Nat) (hN : N ≤ 1000000) (ss : List Tx) (x : Tx) (W : World) (h : ApAt w0 fn sv Bs l D ss W) (hlen : ss.length < N) :
 YieldAt F m Tryz.prog l #[txE x] W fun e W' => e = .returned (.bool true) ∧ ApAt w0 fn sv Bs l D (ss ++ [x]) W' ∧ KeepsWalks W W' := by
 have hne : (62 : TypeId) ≠ 42 := by decide
 obtain ⟨i0, hi, hz0, hz1, hz2⟩ := info_parts tx_info
 refine ⟨fn, #[.slice none 0 0, sv, .pointer (some ⟨Bs, 0, none⟩), undef, .slice none 0 0, undef, sv, txE x, undef, undef, undef, undef, undef], (loopOf (Func.body Tryz.f284)).1, (loopOf (Func.body Tryz.f284)).2, by simpa [apRec] using run_yield (P := Tryz.prog) (args := #[txE x]) h.L rfl, roundIn_of_wpIn hfn ?_⟩
 have hl0 : l < W.heap.size := (Array.getElem?_eq_some_iff.1 h.L).1
 have BX := Blk.new W 42 x.cells
 obtain ⟨W1, hW1⟩ : ∃ W1, W.alloc (.cells #[.int .i64 x.node, .int .i64 x.life, .int .i64 x.num] 42) = W1 := ⟨_, rfl⟩
 have hW1' : W.alloc (.cells x.cells.toArray 42) = W1 := hW1
 rw [hW1'] at BX
 have hg1 : W.grownBy W1 none := by rw [← hW1]; exact below_grown ((jb W.heap.size W).al _)
 have hk1 : KeepsWalks W W1 := by rw [← hW1]; exact KeepsWalks.alloc _ _
 have hA : ApAt w0 fn sv Bs l D ss W1 := ap_abides w0 fn sv Bs l D w0.heap.size (Nat.le_refl _) ss W W1 none h hg1 (fun r e => by cases e)
 obtain ⟨v, hv, hrow, _⟩ := hA.box
 have hl : l < W1.heap.size := (Array.getElem?_eq_some_iff.1 hA.L).1
 have hbr := run_beginRound (P := Tryz.prog) hA.L rfl
 obtain ⟨W2, hW2⟩ : ∃ W2, W1.putObj l (.loop { apRec fn sv Bs D .ready none with state := .busy }) = W2 := ⟨_, rfl⟩
 rw [hW2] at hbr
 have hg2 : W1.grownBy W2 (some l) := by rw [← hW2]; exact grownBy_putObj_a _ _ _
 have hk2 : KeepsWalks W W2 := hk1.trans (by rw [← hW2]; exact KeepsWalks.putObj _ hA.L rfl)
 have hv2 : W2.heap[Bs]? = some (.cells #[v] 62 (0, 0)) := by rw [← hW2]; exact (World.putObj_heap_other hBl).trans hv
 have hK2 : W2.heap[D]? = some (.deferred (some [])) := by rw [← hW2]; exact (World.putObj_heap_other hDl).trans hA.K
 have hL2 : W2.heap[l]? = some (.loop { apRec fn sv Bs D .ready none with state := .busy }) := by rw [← hW2]; exact World.putObj_heap_same hl
 have hrow2 : W2.ownsRow w0.heap.size 42 3 v ss.length (ss.flatMap Tx.cells) := hrow.kept hg2 (ownsRow_ne_a hrow hA.L (fun cur e => by cases e))
 have hb2 : Below w0.heap.size w0 W2 := hA.below.grown hg2 hA.below.size (fun k e => by cases e; exact h0l)
 obtain ⟨hc2, hf2⟩ := cell_of_box_a hv2
 have hBlt : Bs < W2.heap.size := (Array.getElem?_eq_some_iff.1 hv2).1
 have hl2 : l < W2.heap.size := (Array.getElem?_eq_some_iff.1 hL2).1
 have hDlt : D < W2.heap.size := (Array.getElem?_eq_some_iff.1 hK2).1
 have BX2 := BX.grown hg2 (fun e => by cases e; omega)
 have x0 := BX2.cell 0
 have x1 := BX2.cell 1
 have x2 := BX2.cell 2
 simp only [Tx.cells, List.getElem?_cons_zero, List.getElem?_cons_succ] at x0 x1 x2
 have ne_of : ∀ {j : Nat} {o : Obj}, W2.heap[j]? = some o → (∀ cur, o ≠ .cells cur 42 (0, 0)) → some j ≠ v.ownBlock := fun hj hno => by
  rcases ownsRow_ne_a hrow2 hj hno with e | e
  ·rw [e]; simp
  ·exact fun e' => e e'.symm
 clear hW2 BX BX2 hW1' hA hv hrow h hg1
 dsimp only [loopOf, Tryz.f284]
 unfold txE
 have hcs : ∀ (j : Nat) (u : Value), x.cells[j]? = some u → (W2.alloc (.cells #[.int .i64 x.node, .int .i64 x.life, .int .i64 x.num] 42)).cell? ((⟨W2.heap.size, 0, none⟩ : Addr).add j) = some u := fun j u hj => by
  have := (Blk.new W2 42 x.cells).cell j
  rw [hj] at this
  rw [show ((⟨W2.heap.size, 0, none⟩ : Addr).add j) = ⟨W2.heap.size, j, none⟩ from by cases j <;> simp [Addr.add]]
  exact this
 gi_wp2_with (first
  | (gi_at_builtin; refine wpListIn_append_own _ rfl _ _ 62 rfl w0.heap.size 42 i0 (.agg #[.int .i64 0, .int .i64 0, .int .i64 0]) 3 24 Tryz.underlying62 hi hz0 hz1 hz2 rfl (by decide) _ _ _ rfl (hrow2.alloc _) ⟨W2.heap.size, 0, none⟩ 1 1 x.cells rfl rfl hcs (by simp [Value.oneCell', Tx.cells]) (by simp only [maxLen]; omega) (by omega) (by have := hb2.size; simp; omega) ?_; intro v' w3 hown' hg3 hnil3
     have hv3 : w3.heap[Bs]? = some (.cells #[v] 62 (0, 0)) := (hg3.block Bs (by simp; omega) (ne_of hv2 (fun cur e => by cases e))).trans ((Below.heap_alloc _ _ Bs hBlt).trans hv2)
     obtain ⟨hc3, hf3⟩ := cell_of_box_a hv3
     obtain ⟨g', cap', cur', rfl, hbase', hgb', hr1, hr2, hr3, hr4⟩ : ∃ g' cap' cur', v' = .slice (some ⟨g', 0, none⟩) (ss.length + 1) cap' ∧ w0.heap.size ≤ g' ∧ w3.heap[g']? = some (.cells cur' 42 (0, 0)) ∧ ss.length + 1 ≤ cap' ∧ cap' ≤ maxLen ∧ cur'.size = cap' * 3 ∧ cur'.toList.take ((ss.length + 1) * 3) = ss.flatMap Tx.cells ++ x.cells := by
      rcases hown'.2 with ⟨_, h0⟩ | h'
      ·exact absurd h0 (by omega)
      ·exact h'
     go_frame)
  | gi_round_op_a)
 have hg3' : (W2.alloc (.cells #[.int .i64 x.node, .int .i64 x.life, .int .i64 x.num] 42)).grownBy w3 v.ownBlock := hg3
 have hL3 : w3.heap[l]? = some (.loop { apRec fn sv Bs D .ready none with state := .busy }) := (hg3'.block l (by simp; omega) (ne_of hL2 (fun cur e => by cases e))).trans ((Below.heap_alloc _ _ l hl2).trans hL2)
 have hK3 : w3.heap[D]? = some (.deferred (some [])) := (hg3'.block D (by simp; omega) (ne_of hK2 (fun cur e => by cases e))).trans ((Below.heap_alloc _ _ D hDlt).trans hK2)
 obtain ⟨w4, hw4⟩ : ∃ w4, w3.setCell ⟨Bs, 0, none⟩ (.slice (some ⟨g', 0, none⟩) (ss.length + 1) cap') = w4 := ⟨_, rfl⟩
 rw [hw4]
 have hg4 : w3.grownBy w4 (some Bs) := by rw [← hw4]; exact grownBy_setCell0_a _ _ _
 have hv4 : w4.heap[Bs]? = some (.cells #[.slice (some ⟨g', 0, none⟩) (ss.length + 1) cap'] 62 (0, 0)) := by rw [← hw4]; exact heap_setCell_box_a _ hv3
 have hL4 : w4.heap[l]? = some (.loop { apRec fn sv Bs D .ready none with state := .busy }) := (hg4.block l (Array.getElem?_eq_some_iff.1 hL3).1 (fun e => hBl (by cases e; rfl))).trans hL3
 have hK4 : w4.heap[D]? = some (.deferred (some [])) := (hg4.block D (Array.getElem?_eq_some_iff.1 hK3).1 (fun e => hDB (by cases e; rfl))).trans hK3
 have hrow4 := hown'.kept hg4 (ownsRow_ne_a hown' hv3 (fun cur e => by cases e))
 have hl4 : l < w4.heap.size := (Array.getElem?_eq_some_iff.1 hL4).1
 have hb3 : Below w0.heap.size w0 w3 := (hb2.alloc hb2.size _).grown hg3' (by have := hb2.size; simp; omega) (fun k e => (hrow2.lt k e).1)
 have hb4 : Below w0.heap.size w0 w4 := hb3.grown hg4 hb3.size (fun k e => by cases e; exact h0B)
 have hk4 : KeepsWalks W w4 := ((hk2.trans (KeepsWalks.alloc _ _)).trans (KeepsWalks.of_grownBy hg3' (ownsRow_not_walk_a (hrow2.alloc _)))).trans (by rw [← hw4]; exact KeepsWalks.setCell _ _ _)
 clear hw4
 refine ⟨_, _, run_endRound none hL4, rfl, ⟨⟨_, (World.putObj_heap_other hBl).trans hv4, ?_, by simp⟩, World.putObj_heap_same hl4, (World.putObj_heap_other hDl).trans hK4, hb4.grown (grownBy_putObj_a _ _ _) hb4.size (fun k e => by cases e; exact h0l)⟩, hk4.trans (KeepsWalks.putObj _ hL4 rfl)⟩
 have := hrow4.kept (grownBy_putObj_a w4 l (.loop { { apRec fn sv Bs D .ready none with state := .busy } with state := if (none : Option Code).isNone then .ready else .done, pending := none })) (ownsRow_ne_a hrow4 hL4 (fun cur e => by cases e))
 simpa using this
set_option maxRecDepth 100000 in
theorem appendSeqT_in (F : Fence) (n : Nat) (h11 : F.fn 284) (hro : F.round = none) (hn : 2 ≤ n) (g : Nat) (lb : Array Value) (hFg : F.fn g) (eg : ∀ args w, (callFunc g args).run Tryz.prog w = .ok (.enter g args) w)
 (S : List Tx → Prop) (N : Nat) (hN : N ≤ 1000000) (w : World) (hseq : SeqGives F (n - 1) Tryz.prog g lb txE S N w) :
 CallsIn F n Tryz.prog 284 #[.slice none 0 0, .func (.func g) #[] lb] w fun e w' => ∃ (v : Value) (ss : List Tx), e = .returned v ∧ S ss ∧ w'.ownsRow w.heap.size 42 3 v ss.length (ss.flatMap Tx.cells) ∧ (v = .slice none 0 0 ↔ ss = []) ∧ Below w.heap.size w w' := by
 have h1 : 1 ≤ n := by omega
 refine callsIn_of_wp_marks Tryz.func284 rfl h11 ?_ hro
 simp only [Tryz.ntmps284, List.size_toArray, List.length_cons, List.length_nil, Nat.reduceAdd, Nat.reduceSub, Array.replicate_succ, Array.replicate_zero, List.push_toArray, List.append_toArray, List.nil_append, List.cons_append]
 gi_wp2
 refine wpIn_rangeFunc ?_
 intro fn hfn
 rw [hro]
 obtain ⟨W0, hW0⟩ : ∃ W0, w.alloc (.cells #[.slice none 0 0] 62) = W0 := ⟨_, rfl⟩
 have hs0 : W0.heap.size = w.heap.size + 1 := by rw [← hW0]; simp
 have hv0 : W0.heap[w.heap.size]? = some (.cells #[.slice none 0 0] 62 (0, 0)) := by rw [← hW0]; exact World.alloc_heap_new w _
 have hb0 : Below w.heap.size w W0 := by rw [← hW0]; exact (jb _ w).alloc (Nat.le_refl _) _
 rw [hW0]
 obtain ⟨W1, hW1⟩ : ∃ W1, (W0.alloc (.deferred (some []))).alloc (.loop (apRec fn (.func (.func g) #[] lb) w.heap.size W0.heap.size .ready none)) = W1 := ⟨_, rfl⟩
 have hold : ∀ k, k < W0.heap.size → W1.heap[k]? = W0.heap[k]? := fun k hk => by
  rw [← hW1]; exact (Below.heap_alloc _ _ k (by simp; omega)).trans (Below.heap_alloc _ _ k hk)
 have hb1 : Below w.heap.size w W1 := by rw [← hW1]; exact (hb0.alloc hb0.size _).alloc (by have := hb0.size; simp; omega) _
 have hs1 : W1.heap.size = W0.heap.size + 2 := by rw [← hW1]; simp
 have hM : ApAt w fn (.func (.func g) #[] lb) w.heap.size (W0.heap.size + 1) W0.heap.size [] W1 :=
  ⟨⟨_, (hold w.heap.size (by omega)).trans hv0, ⟨rfl, .inl ⟨rfl, rfl⟩⟩, by simp⟩,
   by rw [← hW1]; have := World.alloc_heap_new (W0.alloc (.deferred (some []))) (.loop (apRec fn (.func (.func g) #[] lb) w.heap.size W0.heap.size .ready none)); rwa [World.size_alloc] at this,
   by rw [← hW1]; exact (Below.heap_alloc _ _ _ (by simp)).trans (World.alloc_heap_new W0 _), hb1⟩
 refine ⟨W0.heap.size + 1, [{ target := .collected W0.heap.size, args := #[] }], W1, { target := .fn (.func g) lb, args := #[.func (.yield (W0.heap.size + 1)) #[] #[]] }, W1, g,
  #[.func (.yield (W0.heap.size + 1)) #[] #[]] ++ lb, W1, ?_, ?_, ?_, ?_, fun _ => h1, ?_⟩
 ·rw [← hW1]; exact run_enterLoop_outer _ _ _ _ _
 ·simp [resolve, go_sem]
 ·intro f' hf'; simp [Target.leads] at hf'; subst hf'; exact hFg
 ·simp [invoke, go_sem, eg]
 ·refine (hseq (W0.heap.size + 1) (ApAt w fn (.func (.func g) #[] lb) w.heap.size (W0.heap.size + 1) W0.heap.size) W1 hb1 (ap_abides _ _ _ _ _ _ _ hb1.size)
   (fun pre x W hJ hl => apYield F (n - 1 - 1) w fn hfn _ w.heap.size (W0.heap.size + 1) W0.heap.size (by omega) (by omega) (by omega) (Nat.le_refl _) (by omega) N hN pre x W hJ hl) hM).mono ?_
  rintro e W2 ⟨⟨v0, rfl⟩, ss, hS, h2⟩
  obtain ⟨v, hv, hrow, hnil⟩ := h2.box
  have hend := run_endLoop (P := Tryz.prog) h2.L (by simp [apRec])
  obtain ⟨W3, hW3⟩ : ∃ W3, W2.putObj (W0.heap.size + 1) (.loop { apRec fn (.func (.func g) #[] lb) w.heap.size W0.heap.size .ready none with state := .exhausted }) = W3 := ⟨_, rfl⟩
  rw [hW3] at hend
  have hg3 : W2.grownBy W3 (some (W0.heap.size + 1)) := by rw [← hW3]; exact grownBy_putObj_a _ _ _
  have hv3 : W3.heap[w.heap.size]? = some (.cells #[v] 62 (0, 0)) := by rw [← hW3]; exact (World.putObj_heap_other (by omega)).trans hv
  have hK3 : W3.heap[W0.heap.size]? = some (.deferred (some [])) := by rw [← hW3]; exact (World.putObj_heap_other (by omega)).trans h2.K
  have hrow3 := hrow.kept hg3 (ownsRow_ne_a hrow h2.L (fun cur e => by cases e))
  have hb3 : Below w.heap.size w W3 := h2.below.grown hg3 h2.below.size (fun k e => by cases e; omega)
  obtain ⟨hc3, hf3⟩ := cell_of_box_a hv3
  clear hW3
  refine ⟨none, W3, hend, ?_⟩
  gi_wp2
  rw [← hs0]
  refine ⟨by simp, .inl ⟨_, _, rfl, run_takeDeferred hK3, ?_⟩⟩
  exact ⟨_, results_tmp rfl _ _ _, v, ss, rfl, hS, hrow3.kept (grownBy_putObj_a _ _ _) (ownsRow_ne_a hrow3 hK3 (fun cur e => by cases e)), hnil, hb3.grown (grownBy_putObj_a _ _ _) hb3.size (fun k e => by cases e; omega)⟩
theorem collectT_in (F : Fence) (n : Nat) (h8 : F.fn 221) (h11 : F.fn 284) (hro : F.round = none) (hn : 3 ≤ n) (g : Nat) (lb : Array Value) (hFg : F.fn g) (eg : ∀ args w, (callFunc g args).run Tryz.prog w = .ok (.enter g args) w)
 (S : List Tx → Prop) (N : Nat) (hN : N ≤ 1000000) (w : World) (hseq : SeqGives F (n - 1 - 1) Tryz.prog g lb txE S N w) :
 CallsIn F n Tryz.prog 221 #[.func (.func g) #[] lb] w fun e w' => ∃ (v : Value) (ss : List Tx), e = .returned v ∧ S ss ∧ w'.ownsRow w.heap.size 42 3 v ss.length (ss.flatMap Tx.cells) ∧ (v = .slice none 0 0 ↔ ss = []) ∧ Below w.heap.size w w' := by
 have h1 : 1 ≤ n := by omega
 have e11 : ∀ args w, (callFunc 284 args).run Tryz.prog w = .ok (.enter 284 args) w := enters_of Tryz.func284 (by kernel_rfl) rfl
 refine callsIn_of_wp Tryz.func221 rfl h8 ?_ hro
 simp only [Tryz.ntmps221, List.size_toArray, List.length_cons, List.length_nil, Nat.reduceAdd, Nat.reduceSub, Array.replicate_succ, Array.replicate_zero, List.push_toArray, List.append_toArray, List.nil_append, List.cons_append]
 gi_wp2_with (gi_at_fn 284; refine (appendSeqT_in F (n - 1) h11 hro (by omega) g lb hFg eg S N hN _ hseq).mono ?_; rintro e w' ⟨v, ss, rfl, hS, hrow, hnil, hb⟩)
 go_ret
 exact ⟨v, ss, rfl, hS, hrow, hnil, hb⟩
end Go.Proofs.YtcmjgghkmdbphaaGreatDoor
namespace Go.Proofs.YtcmjgghkmdbphaaGreatDoor
open Go.RowKit Go.Shelf
theorem keysH_any (mb : Option Nat) (w : World) : Calls Tryz.prog 131 #[.map mb] w fun e w' => e = .returned (.func (.func 223) #[] #[.pointer (some ⟨w.heap.size, 0, none⟩)]) ∧ w' = w.alloc (.cells #[.map mb] 172) := by
 go_enter Tryz.func131, Tryz.ntmps131
 go_wp2
 go_ret
 exact ⟨rfl, rfl⟩
theorem collectH_any (bx m : Nat) (ps : List (Tx × Value)) (w : World) (hx : bx < w.heap.size) (hb : w.cell? ⟨bx, 0, none⟩ = some (.map (some m))) (h : MapAt txE w m ps) (hl : ps.length ≤ 1000000) :
 Calls Tryz.prog 221 #[.func (.func 223) #[] #[.pointer (some ⟨bx, 0, none⟩)]] w fun e w' =>
  ∃ (v : Value) (ss : List Tx), e = .returned v ∧ ss.Perm (ps.map (·.1)) ∧ w'.ownsRow w.heap.size 42 3 v ss.length (ss.flatMap Tx.cells) ∧ (v = .slice none 0 0 ↔ ss = []) ∧ Below w.heap.size w w' :=
 callsIn_wide.1 (collectT_in Fence.wide 5 trivial trivial rfl (by omega) 223 #[.pointer (some ⟨bx, 0, none⟩)] trivial (enters_of Tryz.func223 (by kernel_rfl) rfl) _ ps.length hl w
  (keysH_gives Fence.wide _ trivial rfl (by omega) bx m ps w hx hb h))
end Go.Proofs.YtcmjgghkmdbphaaGreatDoor
namespace Go.Proofs.YtcmjgghkmdbphaaGreatDoor
open Go.RowKit Go.Shelf Go.Sort
instance : Inhabited Tx := ⟨⟨0, 0, 0⟩⟩
def orderT (x y : Tx) : Int := orI [cmpI x.node y.node, cmpI x.life y.life, cmpI x.num y.num]
theorem three_alloc (w : World) (a b c : Obj) : (((w.alloc a).alloc b).drew).alloc c = grow (w.drewN 1) #[a, b, c] := by
 rw [alloc_eq_grow, alloc_eq_grow, alloc_eq_grow, grow_grow]
 show grow (grow w.drew _) _ = _
 rw [grow_grow]
 rfl
theorem int_cells {w : World} {b : Nat} {t : TypeId} {l : List Int} (h : Blk w b t (l.map fun n => .int .i64 n)) (k : Nat) (x : Int) (hk : l[k]? = some x) : w.cell? ⟨b, k, none⟩ = some (.int .i64 x) := by
 rw [h.cell, List.getElem?_map, hk]; rfl
theorem order_any (x y : Tx) (w : World) : Calls Tryz.prog 132 #[.agg (x.cells).toArray, .agg (y.cells).toArray] w fun e w' => e = .returned (.int .i64 (orderT x y)) ∧ ∃ q os', w' = grow (w.drewN q) os' := by
 have BX := (Blk.new w 42 (x.cells)).alloc (.cells (y.cells).toArray 42)
 have BY := Blk.new1 w (.cells (x.cells).toArray 42) 42 (y.cells)
 unfold Tx.cells at *
 go_enter Tryz.func132, Tryz.ntmps132
 go_upto_region 1 with fail
 generalize hw1 : (w.alloc (.cells #[.int .i64 x.node, .int .i64 x.life, .int .i64 x.num] 42)).alloc (.cells #[.int .i64 y.node, .int .i64 y.life, .int .i64 y.num] 42) = w1 at *
 have HW := jh hw1
 clear hw1
 have x0 := On.cell (BX.cell 0 : w1.cell? ⟨w.heap.size, 0, none⟩ = some (.int .i64 x.node))
 have x1 := On.cell (BX.cell 1 : w1.cell? ⟨w.heap.size, 1, none⟩ = some (.int .i64 x.life))
 have x2 := On.cell (BX.cell 2 : w1.cell? ⟨w.heap.size, 2, none⟩ = some (.int .i64 x.num))
 have y0 := On.cell (BY.cell 0 : w1.cell? ⟨w.heap.size + 1, 0, none⟩ = some (.int .i64 y.node))
 have y1 := On.cell (BY.cell 1 : w1.cell? ⟨w.heap.size + 1, 1, none⟩ = some (.int .i64 y.life))
 have y2 := On.cell (BY.cell 2 : w1.cell? ⟨w.heap.size + 1, 2, none⟩ = some (.int .i64 y.num))
 clear BX BY
 have C0 := cmp_any x.node y.node w1.drew
 have C1 := cmp_any x.life y.life w1.drew
 have C2 := cmp_any x.num y.num w1.drew
 refine wp_region_mix (.seg [0, 1, 2, 3, 5, 6, 7, 8, 10, 11, 12, 13] 4 (.seg [] 9 (.seg [] 14 (.seg [] 15 (.seg [] 16 (.leaf [17])))))) (fun w' => ∃ d : Wd (On w1), w' = d.w) (by kernel_rfl) (by kernel_rfl) (fun _ _ d _ _ h => by cases d <;> exact h) (ClsW.mk (jb _ _).drew) ?_
 unfold wpMix; simp only [pick, j1, j2, j3, j4]
 (repeat (show wpQuiet _ _ _ _ (_ :: _) _; go_big_quiet_step (fail))); refine qn ?_
 go_wp2_with fail
 refine C0.mono ?_
 clear C0
 rintro e w' ⟨rfl, rfl⟩
 go_wp2_with fail
 (refine segw (D := On w1) ((jb _ _).drew) ?_; unfold wpMix; simp only [pick, j1, j2, j3, j4]; (repeat (show wpQuiet _ _ _ _ (_ :: _) _; go_big_quiet_step (fail))); refine qn ?_)
 go_wp2_with fail
 refine C1.mono ?_
 clear C1
 rintro e w' ⟨rfl, rfl⟩
 go_wp2_with fail
 (refine segw (D := On w1) ((jb _ _).drew) ?_; unfold wpMix; simp only [pick, j1, j2, j3, j4]; (repeat (show wpQuiet _ _ _ _ (_ :: _) _; go_big_quiet_step (fail))); refine qn ?_)
 go_wp2_with fail
 refine C2.mono ?_
 clear C2
 rintro e w' ⟨rfl, rfl⟩
 go_wp2_with fail
 (refine segw (D := On w1) ((jb _ _).drew) ?_; unfold wpMix; simp only [pick, j1, j2, j3, j4]; (repeat (show wpQuiet _ _ _ _ (_ :: _) _; go_big_quiet_step (fail))); refine qn ?_)
 have C3 := or_any [cmpI x.node y.node, cmpI x.life y.life, cmpI x.num y.num] w1.drew.heap.size 3 (w1.drew.alloc (.cells #[.int .i64 (cmpI x.node y.node), .int .i64 (cmpI x.life y.life), .int .i64 (cmpI x.num y.num)] 3)) (by simp) (int_cells (Blk.new w1.drew 3 _))
 go_wp2_with fail
 (refine segw (D := On w1) ((jb _ _).drew.al _) ?_; unfold wpMix; simp only [pick, j1, j2, j3, j4]; (repeat (show wpQuiet _ _ _ _ (_ :: _) _; go_big_quiet_step (fail))); refine qn ?_)
 go_wp2_with fail
 refine C3.mono ?_
 clear C3
 rintro e w' ⟨rfl, rfl⟩
 go_wp2_with fail
 (refine segw (D := On w1) ((jb _ _).drew.al _) ?_; unfold wpMix; simp only [pick, j1, j2, j3, j4]; (repeat (show wpQuiet _ _ _ _ (_ :: _) _; go_big_quiet_step (fail))); refine qn ?_)
 clear x0 x1 x2 y0 y1 y2
 go_wp2_with fail
 go_ret
 refine ⟨rfl, 1, #[.cells x.cells.toArray 42, .cells y.cells.toArray 42, .cells #[.int .i64 (cmpI x.node y.node), .int .i64 (cmpI x.life y.life), .int .i64 (cmpI x.num y.num)] 3], ?_⟩
 rw [← HW.out]
 exact three_alloc w _ _ _
theorem orI_neg (a b c : Int) : orI [a, b, c] < 0 ↔ a < 0 ∨ (a = 0 ∧ (b < 0 ∨ (b = 0 ∧ c < 0))) := by
 simp only [orI]
 split
 ·split
  ·split <;> omega
  ·omega
 ·omega
theorem cmpI_neg (x y : Int) : (cmpI x y < 0 ↔ x < y) ∧ (cmpI x y = 0 ↔ x = y) := by
 unfold cmpI
 constructor
 ·repeat' split
  all_goals omega
 ·repeat' split
  all_goals omega
theorem ltOf_order (x y : Tx) : ltOf orderT x y = decide (x.node < y.node ∨ (x.node = y.node ∧ (x.life < y.life ∨ (x.life = y.life ∧ x.num < y.num)))) := by
 unfold ltOf orderT
 refine decide_eq_decide.2 ?_
 rw [orI_neg, (cmpI_neg _ _).1, (cmpI_neg _ _).2, (cmpI_neg _ _).1, (cmpI_neg _ _).2, (cmpI_neg _ _).1]
theorem order_swo : SWO (ltOf orderT) where
 irrefl x := by rw [ltOf_order]; simp
 trans x y z h1 h2 := by rw [ltOf_order] at *; simp only [decide_eq_true_eq] at *; omega
 ntrans x y z h1 h2 := by rw [ltOf_order] at *; simp only [decide_eq_false_iff_not] at *; omega
theorem order_lays (blk off size : Nat) (w : World) : CmpLays Tryz.prog 132 #[] Tx.cells 3 orderT blk off size w := fun _ _ _ _ x y => order_any x y _
end Go.Proofs.YtcmjgghkmdbphaaGreatDoor
namespace Go.Proofs
open Go.Shelf
def Tryz.sortTx_ren : Go.Shelf.Ren := ⟨fun | 6 => 222 | 15 => 286 | 14 => 285 | 28 => 319 | 29 => 320 | 20 => 311 | 21 => 312 | 22 => 313 | 23 => 314 | 24 => 315 | 25 => 316 | 26 => 317 | 27 => 318 | 46 => 332 | 47 => 333 | 48 => 334 | 49 => 335 | 50 => 336 | 57 => 342 | n => n, fun | 22 => 62 | 24 => 42 | 25 => 209 | 3 => 3 | 39 => 352 | 0 => 0 | 53 => 288 | 55 => 303 | 4 => 4 | 46 => 372 | 45 => 371 | 50 => 376 | 5 => 5 | 9 => 9 | 66 => 386 | 70 => 180 | 76 => 398 | 77 => 399 | n => n, fun | n => n⟩
theorem Tryz.sortTx : Go.Proofs.SlLaysF0.n6 Tryz.prog Tryz.sortTx_ren := {
 mixed := by kernel_rfl
 f6 := ⟨Tryz.f222.name, by decide, Tryz.func222.trans (congrArg some (by kernel_rfl))⟩
 f14 := ⟨Tryz.f285.name, by decide, Tryz.func285.trans (congrArg some (by kernel_rfl))⟩
 f15 := Tryz.func286.trans (congrArg some (by kernel_rfl))
 f20 := ⟨Tryz.f311.name, by decide, Tryz.func311.trans (congrArg some (by kernel_rfl))⟩
 f21 := ⟨Tryz.f312.name, by decide, Tryz.func312.trans (congrArg some (by kernel_rfl))⟩
 f22 := ⟨Tryz.f313.name, by decide, Tryz.func313.trans (congrArg some (by kernel_rfl))⟩
 f23 := ⟨Tryz.f314.name, by decide, Tryz.func314.trans (congrArg some (by kernel_rfl))⟩
 f24 := ⟨Tryz.f315.name, by decide, Tryz.func315.trans (congrArg some (by kernel_rfl))⟩
 f25 := ⟨Tryz.f316.name, by decide, Tryz.func316.trans (congrArg some (by kernel_rfl))⟩
 f26 := ⟨Tryz.f317.name, by decide, Tryz.func317.trans (congrArg some (by kernel_rfl))⟩
 f27 := ⟨Tryz.f318.name, by decide, Tryz.func318.trans (congrArg some (by kernel_rfl))⟩
 f28 := Tryz.func319.trans (congrArg some (by kernel_rfl))
 f29 := Tryz.func320.trans (congrArg some (by kernel_rfl))
 f46 := ⟨Tryz.f332.name, by decide, Tryz.func332.trans (congrArg some (by kernel_rfl))⟩
 f47 := Tryz.func333.trans (congrArg some (by kernel_rfl))
 f48 := Tryz.func334.trans (congrArg some (by kernel_rfl))
 f49 := ⟨Tryz.f335.name, by decide, Tryz.func335.trans (congrArg some (by kernel_rfl))⟩
 f50 := ⟨Tryz.f336.name, by decide, Tryz.func336.trans (congrArg some (by kernel_rfl))⟩
 f57 := ⟨Tryz.f342.name, by decide, Tryz.func342.trans (congrArg some (by kernel_rfl))⟩
 t0 := Tryz.underlying0
 a0 := Tryz.isAgg0
 z0 := Tryz.sizeOf0
 v0 := Tryz.zeroValue0
 t3 := Tryz.underlying3
 a3 := Tryz.isAgg3
 z3 := Tryz.sizeOf3
 v3 := Tryz.zeroValue3
 t4 := Tryz.underlying4
 a4 := Tryz.isAgg4
 z4 := Tryz.sizeOf4
 v4 := Tryz.zeroValue4
 t5 := Tryz.underlying5
 a5 := Tryz.isAgg5
 z5 := Tryz.sizeOf5
 v5 := Tryz.zeroValue5
 t9 := Tryz.underlying9
 a9 := Tryz.isAgg9
 z9 := Tryz.sizeOf9
 v9 := Tryz.zeroValue9
 t22 := Tryz.underlying62
 a22 := Tryz.isAgg62
 z22 := Tryz.sizeOf62
 v22 := Tryz.zeroValue62
 t25 := Tryz.underlying209
 a25 := Tryz.isAgg209
 z25 := Tryz.sizeOf209
 v25 := Tryz.zeroValue209
 t39 := Tryz.underlying352
 a39 := Tryz.isAgg352
 z39 := Tryz.sizeOf352
 v39 := Tryz.zeroValue352
 t45 := Tryz.underlying371
 a45 := Tryz.isAgg371
 z45 := Tryz.sizeOf371
 v45 := Tryz.zeroValue371
 t46 := Tryz.underlying372
 a46 := Tryz.isAgg372
 z46 := Tryz.sizeOf372
 v46 := Tryz.zeroValue372
 t50 := Tryz.underlying376
 a50 := Tryz.isAgg376
 z50 := Tryz.sizeOf376
 v50 := Tryz.zeroValue376
 t53 := Tryz.underlying288
 a53 := Tryz.isAgg288
 z53 := Tryz.sizeOf288
 v53 := Tryz.zeroValue288
 t55 := Tryz.underlying303
 a55 := Tryz.isAgg303
 z55 := Tryz.sizeOf303
 v55 := Tryz.zeroValue303
 t66 := Tryz.underlying386
 a66 := Tryz.isAgg386
 z66 := Tryz.sizeOf386
 v66 := Tryz.zeroValue386
 t70 := Tryz.underlying180
 a70 := Tryz.isAgg180
 z70 := Tryz.sizeOf180
 v70 := Tryz.zeroValue180
 t76 := Tryz.underlying398
 a76 := Tryz.isAgg398
 z76 := Tryz.sizeOf398
 v76 := Tryz.zeroValue398
 t77 := Tryz.underlying399
 a77 := Tryz.isAgg399
 z77 := Tryz.sizeOf399
 v77 := Tryz.zeroValue399 }
end Go.Proofs
namespace Go.Proofs.YtcmjgghkmdbphaaGreatDoor
open Go.RowKit Go.Shelf Go.Sort
theorem enters_order : ∀ args w, (callFunc 132 args).run Tryz.prog w = .ok (.enter 132 args) w := enters_of Tryz.func132 (by kernel_rfl) rfl
theorem sortTx_any (blk off cap : Nat) (d : Array Tx) (w : World) (hH : HoldsK Tx.cells 3 w blk off d) (hblk : blk < w.heap.size) (hsz : d.size < 4611686018427387904) :
 Calls Tryz.prog 222 #[.slice (some ⟨blk, off, none⟩) d.size cap, .func (.func 132) #[] #[]] w fun e w' =>
  e = .returned (.tuple #[]) ∧ ∃ d' n os, PermIn 0 d.size d d' ∧ SortedIn (ltOf orderT) 0 d.size d' ∧ w' = sortWorldK Tx.cells 3 w blk off n d' os :=
 AnyQ.slices_SortFunc Tryz.sortTx 3 Tryz.isAgg42 Tryz.sizeOf42 Tx.cells (fun _ => rfl) (fun x v hv => by simp [Tx.cells] at hv; rcases hv with rfl | rfl | rfl <;> rfl) orderT order_swo 132 #[] blk off cap d w enters_order (order_lays blk off d.size w) hH hblk hsz
end Go.Proofs.YtcmjgghkmdbphaaGreatDoor
namespace Go.Proofs.YtcmjgghkmdbphaaGreatDoor
open Go.RowKit Go.Shelf Go.Sort
theorem flat_len (ts : List Tx) : (ts.flatMap Tx.cells).length = ts.length * 3 := by
 induction ts with
 | nil => rfl
 | cons t ts ih => rw [List.flatMap_cons, List.length_append, ih]; simp [Tx.cells]; omega
theorem flat_get : ∀ (ts : List Tx) (t : Nat), t < ts.length * 3 → (ts.flatMap Tx.cells)[t]? = some ((ts[t / 3]!).cells[t % 3]!)
 | [], t, h => by simp at h
 | x :: ts, t, h => by
   rw [List.flatMap_cons]
   by_cases h3 : t < 3
   ·rw [List.getElem?_append_left (by simpa [Tx.cells] using h3), Nat.div_eq_of_lt h3, Nat.mod_eq_of_lt h3]
    obtain rfl | rfl | rfl : t = 0 ∨ t = 1 ∨ t = 2 := by omega
    all_goals rfl
   ·have hl : x.cells.length = 3 := rfl
    rw [List.getElem?_append_right (by omega), hl, flat_get ts (t - 3) (by simp at h; omega)]
    obtain ⟨u, rfl⟩ : ∃ u, t = u + 3 := ⟨t - 3, by omega⟩
    rw [Nat.add_sub_cancel, Nat.add_mod_right, Nat.add_div_right u (by decide)]
    simp
theorem flatK_tx (ts : List Tx) : flatK Tx.cells 3 ts.toArray = (ts.flatMap Tx.cells).toArray := by
 apply Array.ext
 ·rw [size_flatK, List.size_toArray, List.size_toArray, flat_len]
 ·intro t h1 h2
  have h : t < ts.length * 3 := by simpa using h1
  have e1 := get_flatK Tx.cells 3 ts.toArray t (by simpa using h)
  have e2 := flat_get ts t h
  rw [getElem!_pos _ t h1] at e1
  rw [e1]
  have e3 : ((ts.flatMap Tx.cells).toArray)[t]? = some ((ts[t / 3]!).cells[t % 3]!) := by simpa using e2
  rw [Array.getElem?_eq_getElem h2] at e3
  rw [Option.some.inj e3]
  simp
theorem holdsK_tx {w : World} {g : Nat} {e : TypeId} {cur : Array Value} {ss : List Tx} (hb : w.heap[g]? = some (.cells cur e (0, 0))) (hc : cur.toList.take (ss.length * 3) = ss.flatMap Tx.cells) : HoldsK Tx.cells 3 w g 0 ss.toArray := by
 intro j hj
 rw [flatK_tx] at hj ⊢
 have hj' : j < ss.length * 3 := by rwa [List.size_toArray, flat_len] at hj
 have h1 : (ss.flatMap Tx.cells)[j]? = cur[j]? := by rw [← hc, List.getElem?_take_of_lt hj', Array.getElem?_toList]
 have h2 := flat_get ss j hj'
 constructor
 ·rw [getElem!_pos _ j hj]
  simp only [Nat.zero_add, World.cell?, hb]
  rw [← h1]
  simp
 ·simp [World.frozen?, hb]
theorem heap_sortedT {w : World} {g n : Nat} {os : Array Obj} {cur : Array Value} {e : TypeId} (F : Array Value) (hb : w.heap[g]? = some (.cells cur e (0, 0))) :
 (grow (putRow id (Sort.ahead w n) g 0 F) os).heap[g]? = some (.cells (putCells id 0 F cur) e (0, 0)) := by
 have hg : g < w.heap.size := (Array.getElem?_eq_some_iff.1 hb).1
 rw [heap_grow_old _ _ (by simpa using hg)]
 simp [putRow, mapBlock, Sort.ahead, Array.getElem?_modify, hb, onCells]
theorem grownBy_sortedT {w : World} {g n : Nat} {os : Array Obj} (F : Array Value) : w.grownBy (grow (putRow id (Sort.ahead w n) g 0 F) os) (some g) := by
 refine ⟨rfl, rfl, rfl, by simp, fun k hk hne => ?_⟩
 rw [heap_grow_old _ _ (by simpa using hk)]
 have : g ≠ k := fun e => hne (by rw [e])
 simp [putRow, mapBlock, Sort.ahead, Array.getElem?_modify, this]
theorem take_putT (cur F : Array Value) (h : F.size ≤ cur.size) : (putCells id 0 F cur).toList.take F.size = F.toList := by
 apply List.ext_getElem?
 intro j
 by_cases hj : j < F.size
 ·rw [List.getElem?_take_of_lt hj, Array.getElem?_toList, Array.getElem?_toList]
  simp [putCells, hj, show j < cur.size by omega]
 ·rw [List.getElem?_take_eq_none (by omega), List.getElem?_eq_none (by simp; omega)]
theorem ownsRow_sortedT {w : World} {base g cap n : Nat} {e : TypeId} {os : Array Obj} {cur : Array Value} {ss ts : List Tx} (hl : ts.length = ss.length) (hbase : base ≤ g) (hb : w.heap[g]? = some (.cells cur e (0, 0)))
 (h1 : ss.length ≤ cap) (h2 : cap ≤ maxLen) (h3 : cur.size = cap * 3) :
 (sortWorldK Tx.cells 3 w g 0 n ts.toArray os).ownsRow base e 3 (.slice (some ⟨g, 0, none⟩) ss.length cap) ss.length (ts.flatMap Tx.cells) ∧ w.grownBy (sortWorldK Tx.cells 3 w g 0 n ts.toArray os) (some g) := by
 unfold sortWorldK putRowK
 rw [flatK_tx]
 have hs : (ts.flatMap Tx.cells).toArray.size = ss.length * 3 := by rw [List.size_toArray, flat_len, hl]
 refine ⟨⟨by rw [flat_len, hl], .inr ⟨g, cap, _, rfl, hbase, heap_sortedT _ hb, h1, h2, by simp [putCells, h3], ?_⟩⟩, grownBy_sortedT _⟩
 rw [← hs]
 exact take_putT cur _ (by rw [hs, h3]; omega)
end Go.Proofs.YtcmjgghkmdbphaaGreatDoor
namespace Go.Proofs.YtcmjgghkmdbphaaGreatDoor
open Go.RowKit Go.Shelf Go.Sort
def GotTxs (B : Nat) (l : List Tx) (e : Ending) (w' : World) : Prop := ∃ (v : Value) (ts : List Tx), e = .returned v ∧ ts.Perm l ∧ w'.ownsRow B 42 3 v ts.length (ts.flatMap Tx.cells)
theorem sortedH_any (bx m : Nat) (ps : List (Tx × Value)) (w : World) (hx : bx < w.heap.size) (hb : w.cell? ⟨bx, 0, none⟩ = some (.map (some m))) (h : MapAt txE w m ps) (hl : ps.length ≤ 1000000) (h0 : ps ≠ []) :
 Calls Tryz.prog 130 #[.func (.func 223) #[] #[.pointer (some ⟨bx, 0, none⟩)], .func (.func 132) #[] #[]] w fun e w' => GotTxs w.heap.size (ps.map (·.1)) e w' ∧ Below w.heap.size w w' := by
 have C1 := collectH_any bx m ps w hx hb h hl
 clear hb h
 go_enter Tryz.func130, Tryz.ntmps130
 go_wp2_with fail
 refine C1.mono ?_
 clear C1
 rintro e w1 ⟨v, ss, rfl, hp, hrow, hnil, hb1⟩
 have hne : v ≠ .slice none 0 0 := fun e => h0 (by
  have := hnil.1 e
  subst this
  have := hp.length_eq
  simp at this
  exact List.eq_nil_of_length_eq_zero this.symm)
 obtain ⟨hrl, ⟨rfl, _⟩ | ⟨g, cap, cur, rfl, hg1, hg2, hg3, hg4, hg5, hg6⟩⟩ := hrow
 ·exact absurd rfl hne
 ·have hgl : g < w1.heap.size := (Array.getElem?_eq_some_iff.1 hg2).1
  have C2 := sortTx_any g 0 cap ss.toArray w1 (holdsK_tx hg2 hg6) hgl (by have := hp.length_eq; simp at this ⊢; omega)
  rw [List.size_toArray] at C2
  have H1 := jh (ja hp (ja hb1 (ja hg1 (ja hg2 (ja hg3 (ja hg4 hg5))))))
  clear hp hnil hb1 hne hrl hg1 hg2 hg3 hg4 hg5 hg6 hgl
  go_wp2_with fail
  refine C2.mono ?_
  clear C2
  rintro e w2 ⟨rfl, d', n, os, hpi, hsi, hw2⟩
  have H2 := jh (ja hpi hw2)
  clear hpi hsi hw2
  go_wp2_with fail
  go_ret
  obtain ⟨hp, hb1, hg1, hg2, hg3, hg4, hg5⟩ := H1.out
  obtain ⟨⟨hz, _, hpm⟩, rfl⟩ := H2.out
  have hl2 : d'.toList.length = ss.length := by simpa using hz
  have hpt : d'.toList.Perm ss := by
   have e1 : d'.extract 0 ss.length = d' := by rw [← hl2, Array.length_toList]; exact Array.extract_size
   have e2 : ss.toArray.extract 0 ss.length = ss.toArray := by rw [← List.size_toArray]; exact Array.extract_size
   rw [e1, e2] at hpm
   simpa using hpm
  have O := ownsRow_sortedT (ts := d'.toList) (n := n) (os := os) hl2 hg1 hg2 hg3 hg4 hg5
  rw [Array.toArray_toList] at O
  exact ⟨⟨_, d'.toList, rfl, hpt.trans hp, by rw [hl2]; exact O.1⟩, hb1.grown O.2 hb1.size (fun k e => by cases e; exact hg1)⟩
end Go.Proofs.YtcmjgghkmdbphaaGreatDoor
namespace Go.Proofs.YtcmjgghkmdbphaaGreatDoor
open Go.RowKit Go.ChangeMaps
set_option maxRecDepth 100000 in
theorem keysNilH_in (F : Fence) (n : Nat) (h10 : F.fn 223) (hro : F.round = none) (l Bm : Nat) (J : List Tx → World → Prop)
 (W : World) (hJ : AbidesFrom W.heap.size J) (hm : W.cell? ⟨Bm, 0, none⟩ = some (.map none)) (h0 : J [] W) :
 CallsIn F n Tryz.prog 223 #[.func (.yield l) #[] #[], .pointer (some ⟨Bm, 0, none⟩)] W fun e W' => (∃ v, e = .returned v) ∧ ∃ xs : List Tx, xs = [] ∧ J xs W' := by
 refine callsIn_of_wp Tryz.func223 rfl h10 ?_ hro
 simp only [Tryz.ntmps223, List.size_toArray, List.length_cons, List.length_nil, Nat.reduceAdd, Nat.reduceSub, Array.replicate_succ, Array.replicate_zero, List.push_toArray, List.append_toArray, List.nil_append, List.cons_append]
 gi_wp2_with (first
  | (gi_at_range; refine wpListIn_range_nil rfl (.tmp 4) 172 rfl Tryz.underlying172 rfl ?_; intro w0 hit0 hb0 hs0)
  | gi_in)
 go_frame
 gi_loopw [3] (fun _ wr => wr = w0) (fun _ _ => 0)
 case atStart => rfl
 case round =>
  obtain rfl := hrel
  gi_wp2_with (first
   | (gi_at_next; refine wpListIn_next_nil rfl (.tmp 5) rfl rfl hit0 ?_)
   | gi_in)
  go_end0
  exact ⟨⟨_, rfl⟩, [], rfl, hJ [] W _ none h0 (below_grown hb0) (fun r e => by cases e)⟩
theorem collectNilH_any (bx : Nat) (w : World) (hx : bx < w.heap.size) (hb : w.cell? ⟨bx, 0, none⟩ = some (.map none)) :
 Calls Tryz.prog 221 #[.func (.func 223) #[] #[.pointer (some ⟨bx, 0, none⟩)]] w fun e w' => e = .returned (.slice none 0 0) ∧ Below w.heap.size w w' := by
 have hseq : SeqGives Fence.wide (5 - 1 - 1) Tryz.prog 223 #[.pointer (some ⟨bx, 0, none⟩)] txE (fun xs : List Tx => xs = []) 0 w := fun l J W hW hJ hY h0 =>
  keysNilH_in Fence.wide _ trivial rfl l bx J W hJ ((hW.cell (p := ⟨bx, 0, none⟩) hx).trans hb) h0
 refine (callsIn_wide.1 (collectT_in Fence.wide 5 trivial trivial rfl (by omega) 223 #[.pointer (some ⟨bx, 0, none⟩)] trivial (enters_of Tryz.func223 (by kernel_rfl) rfl) _ 0 (by omega) w hseq)).mono ?_
 rintro e w' ⟨v, ss, rfl, rfl, _, hnil, hb⟩
 exact ⟨by rw [hnil.2 rfl], hb⟩
end Go.Proofs.YtcmjgghkmdbphaaGreatDoor
namespace Go.Proofs.YtcmjgghkmdbphaaGreatDoor
open Go.RowKit Go.Shelf Go.Sort
theorem sortNone_any (F : Value) (w : World) : Calls Tryz.prog 222 #[.slice none 0 0, F] w fun e w' => e = .returned (.tuple #[]) ∧ w' = w := AnyF.slices_SortFunc_none Tryz.sortTx none 0 F w
theorem collectNoH_any (mb : Option Nat) (w : World) (h : MapV w (.map mb) []) : Calls Tryz.prog 221 #[.func (.func 223) #[] #[.pointer (some ⟨w.heap.size, 0, none⟩)]] (w.alloc (.cells #[.map mb] 172)) fun e w' =>
 e = .returned (.slice none 0 0) ∧ Below (w.alloc (.cells #[.map mb] 172)).heap.size (w.alloc (.cells #[.map mb] 172)) w' := by
 have h1 := h.ext ((jb w.heap.size w).al (.cells #[.map mb] 172))
 have hx : w.heap.size < (w.alloc (.cells #[.map mb] 172)).heap.size := by simp
 have hb : (w.alloc (.cells #[.map mb] 172)).cell? ⟨w.heap.size, 0, none⟩ = some (.map mb) := (Blk.new w 172 [.map mb]).cell 0
 rcases h1 with ⟨e, _⟩ | ⟨m, e, hM⟩
 ·injection e with e
  subst e
  exact collectNilH_any w.heap.size _ hx hb
 ·injection e with e
  subst e
  refine (collectH_any w.heap.size m [] _ hx hb hM (by simp)).mono ?_
  rintro e w' ⟨v, ss, rfl, hp, _, hn, hb'⟩
  have hs : ss = [] := by simpa using hp.length_eq
  exact ⟨by rw [hn.2 hs], hb'⟩
theorem sortedNoH_any (mb : Option Nat) (w : World) (h : MapV w (.map mb) []) : Calls Tryz.prog 130 #[.func (.func 223) #[] #[.pointer (some ⟨w.heap.size, 0, none⟩)], .func (.func 132) #[] #[]] (w.alloc (.cells #[.map mb] 172)) fun e w' =>
 e = .returned (.slice none 0 0) ∧ Below w.heap.size w w' := by
 have C1 := collectNoH_any mb w h
 have hb0 := (jb w.heap.size w).al (.cells #[.map mb] 172)
 clear h
 go_enter Tryz.func130, Tryz.ntmps130
 go_wp2_with fail
 refine C1.mono ?_
 clear C1
 rintro e w1 ⟨rfl, hb1⟩
 have C2 := sortNone_any (.func (.func 132) #[] #[]) w1
 have H := jh (hb0.tr hb1)
 clear hb0 hb1
 go_wp2_with fail
 refine C2.mono ?_
 clear C2
 rintro e w2 ⟨rfl, rfl⟩
 go_wp2_with fail
 go_ret
 exact ⟨rfl, H.out⟩
theorem heldNo_any (g : Nat) (s : St) (P : Nat → Prop) (w : World) (h : StAt w P g s) (hs : s.self ≠ 0) (h0 : s.held = []) : Calls Tryz.prog 41 #[ptrV g] w fun e w' => e = .returned (.slice none 0 0) ∧ Below w.heap.size w w' := by
 obtain ⟨v, hB, hI⟩ := h
 obtain ⟨LA, hMV, _, hl⟩ := hI.held.mapV
 have hLA : LA = [] := by
  rw [h0] at hl
  exact List.map_eq_nil_iff.1 hl.symm
 subst hLA
 have C1 := gone_any g s.self w (hB.cell 0) hs
 have b6 : w.cell? ⟨g, 6, none⟩ = some v.held := hB.cell 6
 obtain ⟨mb, hv⟩ : ∃ mb, v.held = .map mb := by
  rcases hMV with ⟨e, _⟩ | ⟨m, e, _⟩
  ·exact ⟨_, e⟩
  ·exact ⟨_, e⟩
 rw [hv] at b6 hMV
 have C2 := keysH_any mb w
 have C3 := sortedNoH_any mb w hMV
 clear hB hI hMV hv hl h0
 unfold ptrV at C1 ⊢
 go_enter Tryz.func41, Tryz.ntmps41
 go_wp2_with fail
 refine C1.mono ?_
 clear C1
 rintro e w' ⟨rfl, rfl⟩
 go_wp2_with fail
 refine C2.mono ?_
 clear C2 b6
 rintro e w1 ⟨rfl, rfl⟩
 go_wp2_with fail
 refine C3.mono ?_
 clear C3
 rintro e w2 ⟨rfl, hb2⟩
 go_wp2_with fail
 go_loopw [2, 14] (fun o i wr => o = .slice none 0 0 ∧ i = .int .i64 0 ∧ wr = w2) (fun _ _ _ => 0)
 case atStart => exact ⟨rfl, rfl, rfl⟩
 case round =>
  obtain ⟨rfl, rfl, rfl⟩ := hrel
  go_wp2_with fail
  go_ret
  exact ⟨rfl, hb2⟩
end Go.Proofs.YtcmjgghkmdbphaaGreatDoor
namespace Go.Proofs.YtcmjgghkmdbphaaGreatDoor
open Go.RowKit
theorem applyH_any (g : Nat) (s : St) (r : Rec) (hK : r.kind = 3 ∨ r.kind = 9 ∨ r.kind = 10 ∨ r.kind = 11) (nA pA sA : Option Addr) (nc pc sc : Nat) (P Q : Nat → Prop) (w : World) (h : StAt w P g s) (hg : ¬ P g) (hS : Fit s)
 (hr : RecAt w Q r nA nc pA pc sA sc) (hQ : ¬ Q g) (hF : r.Fair) (hT : Tabs w) (h2 : 2 ≤ g) (hP : PutFair r.streams) (hrl : s.ring.length ≤ 300) (hfl : (freshT s.table).length ≤ 40000) :
 Calls Tryz.prog 19 #[ptrV g, .agg (r.cells nA nc pA pc sA sc).toArray] w (StOut w P g (applyS s r)) := by
 have hgl := h.lt
 have HH := jh (ja h (ja hg (ja hS (ja hr (ja hF hT)))))
 clear h hg hS hr hF hT
 have hb1 := (jb w.heap.size w).al (.cells (r.cells nA nc pA pc sA sc).toArray 46)
 have B0 := Blk.new w 46 (r.cells nA nc pA pc sA sc)
 have hs1 : (w.alloc (.cells (r.cells nA nc pA pc sA sc).toArray 46)).heap.size = w.heap.size + 1 := by simp
 unfold ptrV
 go_enter Tryz.func19, Tryz.ntmps19
 go_upto_region 1 with fail
 refine forget (M := fun W => Code.wp _ _ _ _ W) (fun W => Below w.heap.size w W ∧ Blk W w.heap.size 46 (r.cells nA nc pA pc sA sc) ∧ W.heap.size = w.heap.size + 1) ⟨hb1, B0, hs1⟩ ?_
 clear B0 hb1 hs1
 rintro w1 ⟨hb1, B0, hs1⟩
 obtain ⟨v, hB, hI⟩ := HH.out.1
 have C1 := gone_any g s.self w1 ((hB.ext hb1).cell 0) HH.out.2.2.1.self
 have C2 := recCheckH_any r hK nA pA sA nc pc sc Q w1 (HH.out.2.2.2.1.ext (js hb1) hb1.size) HH.out.2.2.2.2.1 (HH.out.2.2.2.2.2.below hb1) (by omega)
 unfold ptrV at C1
 have H1 := jh (ja hb1 hs1)
 clear hB hI hb1
 go_wp2_with fail
 refine C1.mono ?_
 clear C1
 rintro e w' ⟨rfl, rfl⟩
 go_wp2_with (first
  | ((with_reducible refine wpList_load_blk rfl rfl ?_ B0 Tryz.underlying46 rfl (by kernel_rfl) ?_); · rfl)
  | fail)
 refine C2.mono ?_
 clear C2
 rintro e w2 ⟨rfl, hb2⟩
 have B2 := B0.ext hb2
 have hw2 := H1.out.1.tr hb2
 by_cases hc : checkR r = 0
 ·have hk := checkR_kind hc
  have HA := jh (show applyS s r = doS s r from by unfold applyS; rw [if_neg (by rw [hc]; simp)])
  have hst2 : StAt w2 P g s := by obtain ⟨v, hB, hI⟩ := HH.out.1; exact ⟨v, hB.ext hw2, hI.same (js hw2)⟩
  have hra := (HH.out.2.2.2.1.mono fun k h h' => (⟨h, h'⟩ : Q k ∧ k < w.heap.size)).ext (js hw2) hw2.size
  have hT2 := HH.out.2.2.2.2.2.below hw2
  have D3 := jh fun (h : r.kind = 3) => (show Calls Tryz.prog 89 #[ptrV g, .agg (r.cells nA nc pA pc sA sc).toArray] w2 (StOut w2 P g (applyS s r)) from by rw [HA.out, show doS s r = commitS s r from by unfold doS; rw [h]; rfl]; exact commit_out g s r nA pA sA nc pc sc P (fun k => Q k ∧ k < w.heap.size) w2 hst2 HH.out.2.1 HH.out.2.2.1 hra (fun h => hQ h.1) HH.out.2.2.2.2.1.puts HH.out.2.2.2.2.1.data hT2 h2)
  have D9 := jh fun (h : r.kind = 9) => (show Calls Tryz.prog 95 #[ptrV g, .agg (r.cells nA nc pA pc sA sc).toArray] w2 (StOut w2 P g (applyS s r)) from by rw [HA.out, show doS s r = freezeS s r from by unfold doS; rw [h]; rfl]; exact freeze_any g s r nA pA sA nc pc sc P (fun k => Q k ∧ k < w.heap.size) w2 hst2 HH.out.2.1 HH.out.2.2.1 hra (freeze_empty hc (.inl h)))
  have D10 := jh fun (h : r.kind = 10) => (show Calls Tryz.prog 96 #[ptrV g, .agg (r.cells nA nc pA pc sA sc).toArray] w2 (StOut w2 P g (applyS s r)) from by rw [HA.out, show doS s r = installS s r from by unfold doS; rw [h]; rfl]; exact install_any g s r nA pA sA nc pc sc P (fun k => Q k ∧ k < w.heap.size) w2 hst2 HH.out.2.1 HH.out.2.2.1 hra (fun h => hQ h.1) hP (checkR_span hc (.inr (.inl h))).1 hrl hfl hT2 h2)
  have D11 := jh fun (h : r.kind = 11) => (show Calls Tryz.prog 97 #[ptrV g, .agg (r.cells nA nc pA pc sA sc).toArray] w2 (StOut w2 P g (applyS s r)) from by rw [HA.out, show doS s r = releaseS s r from by unfold doS; rw [h]; rfl]; exact release_any g s r nA pA sA nc pc sc P (fun k => Q k ∧ k < w.heap.size) w2 hst2 HH.out.2.1 HH.out.2.2.1 hra hrl hfl hT2 h2)
  have hcase := hK
  rw [hc]
  have x0 : w2.cell? ⟨w.heap.size, 0, none⟩ = some (.int .i64 r.kind) := B2.cell 0
  have H2 := jh hw2
  clear hc hb2 hw2 B0 hst2 hra hT2 hk HA
  generalize applyS s r = q at *
  rcases hcase with h8 | h8 | h8 | h8
  all_goals
   first
    | have C3 := D3.out h8
    | have C3 := D9.out h8
    | have C3 := D10.out h8
    | have C3 := D11.out h8
   rw [h8] at x0
   clear D3 D9 D10 D11 h8
   unfold ptrV at C3
   go_wp2_with (first
    | ((with_reducible refine wpList_load_blk rfl rfl ?_ B2 Tryz.underlying46 rfl (by kernel_rfl) ?_); · rfl)
    | fail)
   refine C3.mono ?_
   clear C3 x0 B2
   rintro e w3 ⟨rfl, hst, hO⟩
   have H3 := jh (ja hst hO)
   clear hst hO
   go_wp2_with fail
   go_ret
   unfold StOut
   obtain ⟨v', a1, a2⟩ := H3.out.1
   exact ⟨rfl, ⟨v', a1, a2.mono fun k hk => by
    rcases hk with h | h
    ·exact .inl h
    ·exact .inr (by have := H2.out.size; omega)⟩, (jo H2.out).tr H3.out.2⟩
 ·have HC := jh (show applyS s r = (s, checkR r) from by unfold applyS; rw [if_pos hc])
  have hc' : (checkR r != 0) = true := bne_iff_ne.2 hc
  obtain ⟨v, hB, hI⟩ := HH.out.1
  have H3 := jh (ja (⟨v, hB.ext hw2, hI.same (js hw2)⟩ : StAt w2 P g s) hw2)
  clear hc hB hI hb2 hw2 B0 B2
  go_wp2_with fail
  go_ret
  unfold StOut
  rw [HC.out]
  obtain ⟨v', a1, a2⟩ := H3.out.1
  exact ⟨rfl, ⟨v', a1, a2.mono fun k hk => .inl hk⟩, jo H3.out.2⟩
end Go.Proofs.YtcmjgghkmdbphaaGreatDoor
