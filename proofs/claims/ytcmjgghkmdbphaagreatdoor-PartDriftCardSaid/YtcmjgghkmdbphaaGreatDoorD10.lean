/- maps.Keys at transactions: the iterator. slices.Collect at transactions. The keys of a map at transactions, collected. Txs as keys of maps; with, without. state: busy of a state that holds nothing; known. state: has, busy. -/
import Derived.Test.YtcmjgghkmdbphaaGreatDoorD09
import Derived.Test.YtcmjgghkmdbphaaGreatDoorD08
import Derived.RangeFuncGives
import Derived.WalkKit
import Derived.OwnWalkIn
import Derived.TacticsInMore
import Derived.RegionIn
import Derived.LoopNIn
import Derived.LoopIn
import Derived.Shelf.SlIter.Collect
import Derived.Test.YtcmjgghkmdbphaaGreatDoorD07
import Derived.Test.YtcmjgghkmdbphaaGreatDoorD02
import Derived.Shelf.SlMaps.Clone
import Derived.Test.YtcmjgghkmdbphaaGreatDoorD04
set_option maxRecDepth 20000
set_option maxHeartbeats 25600000
namespace Go.Proofs.YtcmjgghkmdbphaaGreatDoor
open Go.RowKit Go.ChangeMaps
theorem cons_erase_perm {α : Type} : ∀ (l : List α) (i : Nat) (x : α), l[i]? = some x → (x :: l.eraseIdx i).Perm l
 | [], i, x, h => by simp at h
 | a :: l, 0, x, h => by
   simp at h; subst h
   exact List.Perm.refl _
 | a :: l, i + 1, x, h => by
   simp at h
   rw [List.eraseIdx_cons_succ]
   exact (List.Perm.swap a x _).trans ((cons_erase_perm l i x h).cons a)
theorem Only.grownBy {w w' : World} {it : Nat} (h : Only (· = it) w w') : w.grownBy w' (some it) := ⟨h.os, h.tape, h.output, h.size, fun g hg hn => h.block g hg (fun e => hn (by rw [e]))⟩
theorem below_grown {w w' : World} (h : Below w.heap.size w w') : w.grownBy w' none := ⟨h.os, h.tape, h.output, h.size, fun g hg _ => h.block g hg⟩
theorem IterAt.walk {κ : Type} {enc : κ → Value} {w : World} {it m : Nat} {left : List (κ × Value)} (h : IterAt enc w it m left) : ∃ o : Obj, w.heap[it]? = some o ∧ o.isWalk = true := by
 obtain ⟨es, clk, since, c0, seen, hm, hi, _⟩ := h
 exact ⟨_, hi, rfl⟩
theorem IterAt.walks {κ : Type} {enc : κ → Value} {w w' : World} {it m : Nat} {left : List (κ × Value)} (h : IterAt enc w it m left) (hk : KeepsWalks w w') : IterAt enc w' it m left := by
 obtain ⟨es, clk, since, c0, seen, hm, hi, r⟩ := h
 exact ⟨es, clk, since, c0, seen, hk.same _ _ hm rfl, hk.same _ _ hi rfl, r⟩
set_option maxRecDepth 100000 in
theorem keysH_in (F : Fence) (n : Nat) (h10 : F.fn 223) (hro : F.round = none) (hn : 1 ≤ n) (l Bm m : Nat) (ps : List (Tx × Value)) (J : List Tx → World → Prop)
 (hY : ∀ pre x W, J pre W → pre.length < ps.length → YieldAt F (n - 1) Tryz.prog l #[txE x] W fun e W' => e = .returned (.bool true) ∧ J (pre ++ [x]) W' ∧ KeepsWalks W W')
 (W : World) (hJ : AbidesFrom W.heap.size J) (hm : W.cell? ⟨Bm, 0, none⟩ = some (.map (some m))) (hown : MapAt txE W m ps) (h0 : J [] W) :
 CallsIn F n Tryz.prog 223 #[.func (.yield l) #[] #[], .pointer (some ⟨Bm, 0, none⟩)] W fun e W' => (∃ v, e = .returned v) ∧ ∃ xs : List Tx, xs.Perm (ps.map (·.1)) ∧ J xs W' := by
 refine callsIn_of_wp Tryz.func223 rfl h10 ?_ hro
 simp only [Tryz.ntmps223, List.size_toArray, List.length_cons, List.length_nil, Nat.reduceAdd, Nat.reduceSub, Array.replicate_succ, Array.replicate_zero, List.push_toArray, List.append_toArray, List.nil_append, List.cons_append]
 gi_wp2_with (first
  | (gi_at_range; refine wpListIn_range_map rfl (.tmp 4) 172 rfl Tryz.underlying172 rfl hown ?_; intro w0 hit0 hb0 hs0)
  | gi_in)
 go_frame
 have HY := jh (ja hY hJ)
 clear hY hJ
 gi_loopw [3] (fun _ wr => ∃ (left : List (Tx × Value)) (ss : List Tx), IterAt txE wr W.heap.size m left ∧ (ss ++ left.map (·.1)).Perm (ps.map (·.1)) ∧ J ss wr)
  (fun _ wr => leftLen wr W.heap.size m)
 case atStart =>
  exact ⟨ps, [], hit0, List.Perm.refl _, HY.out.2 [] W w0 none h0 (below_grown hb0) (fun r e => by cases e)⟩
 case round =>
  obtain ⟨left, ss, hit, hp, hJs⟩ := hrel
  have HP := jh hp
  have HL := jh (show leftLen wr W.heap.size m = left.length from hit.len)
  clear hp
  gi_wp2_with (first
   | (gi_at_next; refine wpListIn_next_map rfl (.tmp 5) rfl rfl hit ?_ ?_)
   | gi_in)
  ·intro hl0
   subst hl0
   gi_wp2
   go_end0
   exact ⟨⟨_, rfl⟩, ss, by have := HP.out; simpa using this, hJs⟩
  ·intro i x v w2 hi hit2 hO2 hs2 hen
   have hlen := HP.out.length_eq
   have hil : i < left.length := (List.getElem?_eq_some_iff.1 hi).1
   have hJ2 : J ss w2 := HY.out.2 ss wr w2 (some W.heap.size) hJs hO2.grownBy (fun r e => by cases e; exact ⟨Nat.le_refl _, hit.walk⟩)
   have hJ3 : J ss (w2.alloc (.cells #[.int .i64 x.node, .int .i64 x.life, .int .i64 x.num] 42)) := HY.out.2 ss w2 _ none hJ2 (below_grown ((jb w2.heap.size w2).al _)) (fun r e => by cases e)
   obtain ⟨fn, tmps, assign, body, hy, hR⟩ := HY.out.1 ss x _ hJ3 (by simp only [List.length_append, List.length_map] at hlen; omega)
   replace hen := hen w2 rfl rfl
   have ex : txE x = .agg #[.int .i64 x.node, .int .i64 x.life, .int .i64 x.num] := rfl
   rw [ex] at hen hy ⊢
   clear ex
   have HC := jh (ja hlen (ja hi hit2))
   clear hlen hi hs2 hO2 hit hJs hJ2
   clear hJ3
   gi_wp2
   refine hR.mono ?_
   rintro e W3 ⟨rfl, hJ4, hk3⟩
   have hit3 := (HC.out.2.2.walks (KeepsWalks.alloc w2 _)).walks hk3
   have hl3 : leftLen W3 W.heap.size m = left.length - 1 := by rw [hit3.len, List.length_eraseIdx, if_pos hil]
   have H3 := jh (ja hit3 hl3)
   clear hit3 hl3 hk3
   gi_wp2
   go_roundw
   case rel =>
    refine ⟨left.eraseIdx i, ss ++ [x], H3.out.1, ?_, hJ4⟩
    refine List.Perm.trans ?_ HP.out
    rw [List.append_assoc]
    refine List.Perm.append_left ss ?_
    have h := HC.out.2.1
    rw [map_erase]
    have hx : (left.map (·.1))[i]? = some x := by rw [List.getElem?_map, h]; rfl
    exact cons_erase_perm _ i x hx
   case measure =>
    rw [H3.out.2, HL.out]
    omega
theorem keysH_gives (F : Fence) (n : Nat) (h10 : F.fn 223) (hro : F.round = none) (hn : 1 ≤ n) (Bm m : Nat) (ps : List (Tx × Value)) (w : World) (hBm : Bm < w.heap.size)
 (hm : w.cell? ⟨Bm, 0, none⟩ = some (.map (some m))) (hown : MapAt txE w m ps) :
 SeqGives F n Tryz.prog 223 #[.pointer (some ⟨Bm, 0, none⟩)] txE (fun xs => xs.Perm (ps.map (·.1))) ps.length w := fun l J W hW hJ hY h0 =>
 keysH_in F n h10 hro hn l Bm m ps J hY W hJ ((hW.cell (p := ⟨Bm, 0, none⟩) hBm).trans hm) (hown.ext hW) h0
end Go.Proofs.YtcmjgghkmdbphaaGreatDoor
namespace Go.Proofs.YtcmjgghkmdbphaaGreatDoor
open Go.RowKit Go.Shelf
theorem tx_info : (Tryz.prog.info? 42).map (fun i => (i.zero, i.size, i.bytes)) = some (some (.agg #[.int .i64 0, .int .i64 0, .int .i64 0]), 3, 24) := by kernel_rfl
def loopOf : Option Code → Code × Code
 | some (.seq _ (.seq (.seq _ (.block _ (.rangeFunc _ _ a b))) _)) => (a, b)
 | _ => (.skip, .skip)
noncomputable def apRec (fn : FuncId) (sv : Value) (Bs D : Nat) (st : LoopState) (pend : Option Code) : Loop :=
 { state := st, pending := pend, fn, tmps := #[.slice none 0 0, sv, .pointer (some ⟨Bs, 0, none⟩), undef, .slice none 0 0, undef, sv, undef, undef, undef, undef, undef, undef], params := #[7], assign := (loopOf (Func.body Tryz.f284)).1, body := (loopOf (Func.body Tryz.f284)).2, defers := D }
structure ApAt (w0 : World) (fn : FuncId) (sv : Value) (Bs l D : Nat) (ss : List Tx) (W : World) : Prop where
 box : ∃ v, W.heap[Bs]? = some (.cells #[v] 62 (0, 0)) ∧ W.ownsRow w0.heap.size 42 3 v ss.length (ss.flatMap Tx.cells) ∧ (v = .slice none 0 0 ↔ ss = [])
 L : W.heap[l]? = some (.loop (apRec fn sv Bs D .ready none))
 K : W.heap[D]? = some (.deferred (some []))
 below : Below w0.heap.size w0 W
theorem ap_abides (w0 : World) (fn : FuncId) (sv : Value) (Bs l D B : Nat) (hB : w0.heap.size ≤ B) : AbidesFrom B (ApAt w0 fn sv Bs l D) := fun s W W' row h hg hrow => by
 have hrow' : ∀ r, row = some r → ∃ o : Obj, W.heap[r]? = some o ∧ o.isWalk = true := fun r e => (hrow r e).2
 obtain ⟨v, hv, hr, hn⟩ := h.box
 exact ⟨⟨v, (grownBy_keeps hg hrow' hv rfl).trans hv, ownsRow_abides_a hr hg hrow', hn⟩, (grownBy_keeps hg hrow' h.L rfl).trans h.L, (grownBy_keeps hg hrow' h.K rfl).trans h.K,
  h.below.grown hg h.below.size (fun k e => Nat.le_trans hB (hrow k e).1)⟩
set_option maxRecDepth 100000 in
theorem apYield (F : Fence) (m : Nat) (w0 : World) (fn : FuncId) (hfn : F.fn fn) (sv : Value) (Bs l D : Nat) (hBl : Bs ≠ l) (hDl : D ≠ l) (hDB : D ≠ Bs) (h0B : w0.heap.size ≤ Bs) (h0l : w0.heap.size ≤ l)
 (N : Nat) (hN : N ≤ 1000000) (ss : List Tx) (x : Tx) (W : World) (h : ApAt w0 fn sv Bs l D ss W) (hlen : ss.length < N) :
 YieldAt F m Tryz.prog l #[txE x] W fun e W' => e = .returned (.bool true) ∧ ApAt w0 fn sv Bs l D (ss ++ [x]) W' ∧ KeepsWalks W W' := by
 have hne : (62 : TypeId) ≠ 42 := by decide
 obtain ⟨i0, hi, hz0, hz1, hz2⟩ := info_parts tx_info
 refine ⟨fn, #[.slice none 0 0, sv, .pointer (some ⟨Bs, 0, none⟩), undef, .slice none 0 0, undef, sv, txE x, undef, undef, undef, undef, undef], (loopOf (Func.body Tryz.f284)).1, (loopOf (Func.body Tryz.f284)).2, by simpa [apRec] using run_yield (P := Tryz.prog) (args := #[txE x]) h.L rfl, roundIn_of_wpIn hfn ?_⟩
 have hl0 : l < W.heap.size := (Array.getElem?_eq_some_iff.1 h.L).1
 have BX := Blk.new W 42 x.cells
 obtain ⟨W1, hW1⟩ : ∃ W1, W.alloc (.cells #[.int .i64 x.node, .int .i64 x.life, .int .i64 x.num] 42) = W1 := ⟨_, rfl⟩
 have hW1' : W.alloc (.cells x.cells.toArray 42) = W1 := hW1
 rw [hW1'] at BX
 have hg1 : W.grownBy W1 none := by rw [← hW1]; exact below_grown ((jb W.heap.size W).al _)
 have hk1 : KeepsWalks W W1 := by rw [← hW1]; exact KeepsWalks.alloc _ _
 have hA : ApAt w0 fn sv Bs l D ss W1 := ap_abides w0 fn sv Bs l D w0.heap.size (Nat.le_refl _) ss W W1 none h hg1 (fun r e => by cases e)
 obtain ⟨v, hv, hrow, _⟩ := hA.box
 have hl : l < W1.heap.size := (Array.getElem?_eq_some_iff.1 hA.L).1
 have hbr := run_beginRound (P := Tryz.prog) hA.L rfl
 obtain ⟨W2, hW2⟩ : ∃ W2, W1.putObj l (.loop { apRec fn sv Bs D .ready none with state := .busy }) = W2 := ⟨_, rfl⟩
 rw [hW2] at hbr
 have hg2 : W1.grownBy W2 (some l) := by rw [← hW2]; exact grownBy_putObj_a _ _ _
 have hk2 : KeepsWalks W W2 := hk1.trans (by rw [← hW2]; exact KeepsWalks.putObj _ hA.L rfl)
 have hv2 : W2.heap[Bs]? = some (.cells #[v] 62 (0, 0)) := by rw [← hW2]; exact (World.putObj_heap_other hBl).trans hv
 have hK2 : W2.heap[D]? = some (.deferred (some [])) := by rw [← hW2]; exact (World.putObj_heap_other hDl).trans hA.K
 have hL2 : W2.heap[l]? = some (.loop { apRec fn sv Bs D .ready none with state := .busy }) := by rw [← hW2]; exact World.putObj_heap_same hl
 have hrow2 : W2.ownsRow w0.heap.size 42 3 v ss.length (ss.flatMap Tx.cells) := hrow.kept hg2 (ownsRow_ne_a hrow hA.L (fun cur e => by cases e))
 have hb2 : Below w0.heap.size w0 W2 := hA.below.grown hg2 hA.below.size (fun k e => by cases e; exact h0l)
 obtain ⟨hc2, hf2⟩ := cell_of_box_a hv2
 have hBlt : Bs < W2.heap.size := (Array.getElem?_eq_some_iff.1 hv2).1
 have hl2 : l < W2.heap.size := (Array.getElem?_eq_some_iff.1 hL2).1
 have hDlt : D < W2.heap.size := (Array.getElem?_eq_some_iff.1 hK2).1
 have BX2 := BX.grown hg2 (fun e => by cases e; omega)
 have x0 := BX2.cell 0
 have x1 := BX2.cell 1
 have x2 := BX2.cell 2
 simp only [Tx.cells, List.getElem?_cons_zero, List.getElem?_cons_succ] at x0 x1 x2
 have ne_of : ∀ {j : Nat} {o : Obj}, W2.heap[j]? = some o → (∀ cur, o ≠ .cells cur 42 (0, 0)) → some j ≠ v.ownBlock := fun hj hno => by
  rcases ownsRow_ne_a hrow2 hj hno with e | e
  ·rw [e]; simp
  ·exact fun e' => e e'.symm
 clear hW2 BX BX2 hW1' hA hv hrow h hg1
 dsimp only [loopOf, Tryz.f284]
 unfold txE
 have hcs : ∀ (j : Nat) (u : Value), x.cells[j]? = some u → (W2.alloc (.cells #[.int .i64 x.node, .int .i64 x.life, .int .i64 x.num] 42)).cell? ((⟨W2.heap.size, 0, none⟩ : Addr).add j) = some u := fun j u hj => by
  have := (Blk.new W2 42 x.cells).cell j
  rw [hj] at this
  rw [show ((⟨W2.heap.size, 0, none⟩ : Addr).add j) = ⟨W2.heap.size, j, none⟩ from by cases j <;> simp [Addr.add]]
  exact this
 gi_wp2_with (first
  | (gi_at_builtin; refine wpListIn_append_own _ rfl _ _ 62 rfl w0.heap.size 42 i0 (.agg #[.int .i64 0, .int .i64 0, .int .i64 0]) 3 24 Tryz.underlying62 hi hz0 hz1 hz2 rfl (by decide) _ _ _ rfl (hrow2.alloc _) ⟨W2.heap.size, 0, none⟩ 1 1 x.cells rfl rfl hcs (by simp [Value.oneCell', Tx.cells]) (by simp only [maxLen]; omega) (by omega) (by have := hb2.size; simp; omega) ?_; intro v' w3 hown' hg3 hnil3
     have hv3 : w3.heap[Bs]? = some (.cells #[v] 62 (0, 0)) := (hg3.block Bs (by simp; omega) (ne_of hv2 (fun cur e => by cases e))).trans ((Below.heap_alloc _ _ Bs hBlt).trans hv2)
     obtain ⟨hc3, hf3⟩ := cell_of_box_a hv3
     obtain ⟨g', cap', cur', rfl, hbase', hgb', hr1, hr2, hr3, hr4⟩ : ∃ g' cap' cur', v' = .slice (some ⟨g', 0, none⟩) (ss.length + 1) cap' ∧ w0.heap.size ≤ g' ∧ w3.heap[g']? = some (.cells cur' 42 (0, 0)) ∧ ss.length + 1 ≤ cap' ∧ cap' ≤ maxLen ∧ cur'.size = cap' * 3 ∧ cur'.toList.take ((ss.length + 1) * 3) = ss.flatMap Tx.cells ++ x.cells := by
      rcases hown'.2 with ⟨_, h0⟩ | h'
      ·exact absurd h0 (by omega)
      ·exact h'
     go_frame)
  | gi_round_op_a)
 have hg3' : (W2.alloc (.cells #[.int .i64 x.node, .int .i64 x.life, .int .i64 x.num] 42)).grownBy w3 v.ownBlock := hg3
 have hL3 : w3.heap[l]? = some (.loop { apRec fn sv Bs D .ready none with state := .busy }) := (hg3'.block l (by simp; omega) (ne_of hL2 (fun cur e => by cases e))).trans ((Below.heap_alloc _ _ l hl2).trans hL2)
 have hK3 : w3.heap[D]? = some (.deferred (some [])) := (hg3'.block D (by simp; omega) (ne_of hK2 (fun cur e => by cases e))).trans ((Below.heap_alloc _ _ D hDlt).trans hK2)
 obtain ⟨w4, hw4⟩ : ∃ w4, w3.setCell ⟨Bs, 0, none⟩ (.slice (some ⟨g', 0, none⟩) (ss.length + 1) cap') = w4 := ⟨_, rfl⟩
 rw [hw4]
 have hg4 : w3.grownBy w4 (some Bs) := by rw [← hw4]; exact grownBy_setCell0_a _ _ _
 have hv4 : w4.heap[Bs]? = some (.cells #[.slice (some ⟨g', 0, none⟩) (ss.length + 1) cap'] 62 (0, 0)) := by rw [← hw4]; exact heap_setCell_box_a _ hv3
 have hL4 : w4.heap[l]? = some (.loop { apRec fn sv Bs D .ready none with state := .busy }) := (hg4.block l (Array.getElem?_eq_some_iff.1 hL3).1 (fun e => hBl (by cases e; rfl))).trans hL3
 have hK4 : w4.heap[D]? = some (.deferred (some [])) := (hg4.block D (Array.getElem?_eq_some_iff.1 hK3).1 (fun e => hDB (by cases e; rfl))).trans hK3
 have hrow4 := hown'.kept hg4 (ownsRow_ne_a hown' hv3 (fun cur e => by cases e))
 have hl4 : l < w4.heap.size := (Array.getElem?_eq_some_iff.1 hL4).1
 have hb3 : Below w0.heap.size w0 w3 := (hb2.alloc hb2.size _).grown hg3' (by have := hb2.size; simp; omega) (fun k e => (hrow2.lt k e).1)
 have hb4 : Below w0.heap.size w0 w4 := hb3.grown hg4 hb3.size (fun k e => by cases e; exact h0B)
 have hk4 : KeepsWalks W w4 := ((hk2.trans (KeepsWalks.alloc _ _)).trans (KeepsWalks.of_grownBy hg3' (ownsRow_not_walk_a (hrow2.alloc _)))).trans (by rw [← hw4]; exact KeepsWalks.setCell _ _ _)
 clear hw4
 refine ⟨_, _, run_endRound none hL4, rfl, ⟨⟨_, (World.putObj_heap_other hBl).trans hv4, ?_, by simp⟩, World.putObj_heap_same hl4, (World.putObj_heap_other hDl).trans hK4, hb4.grown (grownBy_putObj_a _ _ _) hb4.size (fun k e => by cases e; exact h0l)⟩, hk4.trans (KeepsWalks.putObj _ hL4 rfl)⟩
 have := hrow4.kept (grownBy_putObj_a w4 l (.loop { { apRec fn sv Bs D .ready none with state := .busy } with state := if (none : Option Code).isNone then .ready else .done, pending := none })) (ownsRow_ne_a hrow4 hL4 (fun cur e => by cases e))
 simpa using this
set_option maxRecDepth 100000 in
theorem appendSeqT_in (F : Fence) (n : Nat) (h11 : F.fn 284) (hro : F.round = none) (hn : 2 ≤ n) (g : Nat) (lb : Array Value) (hFg : F.fn g) (eg : ∀ args w, (callFunc g args).run Tryz.prog w = .ok (.enter g args) w)
 (S : List Tx → Prop) (N : Nat) (hN : N ≤ 1000000) (w : World) (hseq : SeqGives F (n - 1) Tryz.prog g lb txE S N w) :
 CallsIn F n Tryz.prog 284 #[.slice none 0 0, .func (.func g) #[] lb] w fun e w' => ∃ (v : Value) (ss : List Tx), e = .returned v ∧ S ss ∧ w'.ownsRow w.heap.size 42 3 v ss.length (ss.flatMap Tx.cells) ∧ (v = .slice none 0 0 ↔ ss = []) ∧ Below w.heap.size w w' := by
 have h1 : 1 ≤ n := by omega
 refine callsIn_of_wp_marks Tryz.func284 rfl h11 ?_ hro
 simp only [Tryz.ntmps284, List.size_toArray, List.length_cons, List.length_nil, Nat.reduceAdd, Nat.reduceSub, Array.replicate_succ, Array.replicate_zero, List.push_toArray, List.append_toArray, List.nil_append, List.cons_append]
 gi_wp2
 refine wpIn_rangeFunc ?_
 intro fn hfn
 rw [hro]
 obtain ⟨W0, hW0⟩ : ∃ W0, w.alloc (.cells #[.slice none 0 0] 62) = W0 := ⟨_, rfl⟩
 have hs0 : W0.heap.size = w.heap.size + 1 := by rw [← hW0]; simp
 have hv0 : W0.heap[w.heap.size]? = some (.cells #[.slice none 0 0] 62 (0, 0)) := by rw [← hW0]; exact World.alloc_heap_new w _
 have hb0 : Below w.heap.size w W0 := by rw [← hW0]; exact (jb _ w).alloc (Nat.le_refl _) _
 rw [hW0]
 obtain ⟨W1, hW1⟩ : ∃ W1, (W0.alloc (.deferred (some []))).alloc (.loop (apRec fn (.func (.func g) #[] lb) w.heap.size W0.heap.size .ready none)) = W1 := ⟨_, rfl⟩
 have hold : ∀ k, k < W0.heap.size → W1.heap[k]? = W0.heap[k]? := fun k hk => by
  rw [← hW1]; exact (Below.heap_alloc _ _ k (by simp; omega)).trans (Below.heap_alloc _ _ k hk)
 have hb1 : Below w.heap.size w W1 := by rw [← hW1]; exact (hb0.alloc hb0.size _).alloc (by have := hb0.size; simp; omega) _
 have hs1 : W1.heap.size = W0.heap.size + 2 := by rw [← hW1]; simp
 have hM : ApAt w fn (.func (.func g) #[] lb) w.heap.size (W0.heap.size + 1) W0.heap.size [] W1 :=
  ⟨⟨_, (hold w.heap.size (by omega)).trans hv0, ⟨rfl, .inl ⟨rfl, rfl⟩⟩, by simp⟩,
   by rw [← hW1]; have := World.alloc_heap_new (W0.alloc (.deferred (some []))) (.loop (apRec fn (.func (.func g) #[] lb) w.heap.size W0.heap.size .ready none)); rwa [World.size_alloc] at this,
   by rw [← hW1]; exact (Below.heap_alloc _ _ _ (by simp)).trans (World.alloc_heap_new W0 _), hb1⟩
 refine ⟨W0.heap.size + 1, [{ target := .collected W0.heap.size, args := #[] }], W1, { target := .fn (.func g) lb, args := #[.func (.yield (W0.heap.size + 1)) #[] #[]] }, W1, g,
  #[.func (.yield (W0.heap.size + 1)) #[] #[]] ++ lb, W1, ?_, ?_, ?_, ?_, fun _ => h1, ?_⟩
 ·rw [← hW1]; exact run_enterLoop_outer _ _ _ _ _
 ·simp [resolve, go_sem]
 ·intro f' hf'; simp [Target.leads] at hf'; subst hf'; exact hFg
 ·simp [invoke, go_sem, eg]
 ·refine (hseq (W0.heap.size + 1) (ApAt w fn (.func (.func g) #[] lb) w.heap.size (W0.heap.size + 1) W0.heap.size) W1 hb1 (ap_abides _ _ _ _ _ _ _ hb1.size)
   (fun pre x W hJ hl => apYield F (n - 1 - 1) w fn hfn _ w.heap.size (W0.heap.size + 1) W0.heap.size (by omega) (by omega) (by omega) (Nat.le_refl _) (by omega) N hN pre x W hJ hl) hM).mono ?_
  rintro e W2 ⟨⟨v0, rfl⟩, ss, hS, h2⟩
  obtain ⟨v, hv, hrow, hnil⟩ := h2.box
  have hend := run_endLoop (P := Tryz.prog) h2.L (by simp [apRec])
  obtain ⟨W3, hW3⟩ : ∃ W3, W2.putObj (W0.heap.size + 1) (.loop { apRec fn (.func (.func g) #[] lb) w.heap.size W0.heap.size .ready none with state := .exhausted }) = W3 := ⟨_, rfl⟩
  rw [hW3] at hend
  have hg3 : W2.grownBy W3 (some (W0.heap.size + 1)) := by rw [← hW3]; exact grownBy_putObj_a _ _ _
  have hv3 : W3.heap[w.heap.size]? = some (.cells #[v] 62 (0, 0)) := by rw [← hW3]; exact (World.putObj_heap_other (by omega)).trans hv
  have hK3 : W3.heap[W0.heap.size]? = some (.deferred (some [])) := by rw [← hW3]; exact (World.putObj_heap_other (by omega)).trans h2.K
  have hrow3 := hrow.kept hg3 (ownsRow_ne_a hrow h2.L (fun cur e => by cases e))
  have hb3 : Below w.heap.size w W3 := h2.below.grown hg3 h2.below.size (fun k e => by cases e; omega)
  obtain ⟨hc3, hf3⟩ := cell_of_box_a hv3
  clear hW3
  refine ⟨none, W3, hend, ?_⟩
  gi_wp2
  rw [← hs0]
  refine ⟨by simp, .inl ⟨_, _, rfl, run_takeDeferred hK3, ?_⟩⟩
  exact ⟨_, results_tmp rfl _ _ _, v, ss, rfl, hS, hrow3.kept (grownBy_putObj_a _ _ _) (ownsRow_ne_a hrow3 hK3 (fun cur e => by cases e)), hnil, hb3.grown (grownBy_putObj_a _ _ _) hb3.size (fun k e => by cases e; omega)⟩
theorem collectT_in (F : Fence) (n : Nat) (h8 : F.fn 221) (h11 : F.fn 284) (hro : F.round = none) (hn : 3 ≤ n) (g : Nat) (lb : Array Value) (hFg : F.fn g) (eg : ∀ args w, (callFunc g args).run Tryz.prog w = .ok (.enter g args) w)
 (S : List Tx → Prop) (N : Nat) (hN : N ≤ 1000000) (w : World) (hseq : SeqGives F (n - 1 - 1) Tryz.prog g lb txE S N w) :
 CallsIn F n Tryz.prog 221 #[.func (.func g) #[] lb] w fun e w' => ∃ (v : Value) (ss : List Tx), e = .returned v ∧ S ss ∧ w'.ownsRow w.heap.size 42 3 v ss.length (ss.flatMap Tx.cells) ∧ (v = .slice none 0 0 ↔ ss = []) ∧ Below w.heap.size w w' := by
 have h1 : 1 ≤ n := by omega
 have e11 : ∀ args w, (callFunc 284 args).run Tryz.prog w = .ok (.enter 284 args) w := enters_of Tryz.func284 (by kernel_rfl) rfl
 refine callsIn_of_wp Tryz.func221 rfl h8 ?_ hro
 simp only [Tryz.ntmps221, List.size_toArray, List.length_cons, List.length_nil, Nat.reduceAdd, Nat.reduceSub, Array.replicate_succ, Array.replicate_zero, List.push_toArray, List.append_toArray, List.nil_append, List.cons_append]
 gi_wp2_with (gi_at_fn 284; refine (appendSeqT_in F (n - 1) h11 hro (by omega) g lb hFg eg S N hN _ hseq).mono ?_; rintro e w' ⟨v, ss, rfl, hS, hrow, hnil, hb⟩)
 go_ret
 exact ⟨v, ss, rfl, hS, hrow, hnil, hb⟩
end Go.Proofs.YtcmjgghkmdbphaaGreatDoor
namespace Go.Proofs.YtcmjgghkmdbphaaGreatDoor
open Go.RowKit Go.Shelf
theorem keysH_any (mb : Option Nat) (w : World) : Calls Tryz.prog 131 #[.map mb] w fun e w' => e = .returned (.func (.func 223) #[] #[.pointer (some ⟨w.heap.size, 0, none⟩)]) ∧ w' = w.alloc (.cells #[.map mb] 172) := by
 go_enter Tryz.func131, Tryz.ntmps131
 go_wp2
 go_ret
 exact ⟨rfl, rfl⟩
theorem collectH_any (bx m : Nat) (ps : List (Tx × Value)) (w : World) (hx : bx < w.heap.size) (hb : w.cell? ⟨bx, 0, none⟩ = some (.map (some m))) (h : MapAt txE w m ps) (hl : ps.length ≤ 1000000) :
 Calls Tryz.prog 221 #[.func (.func 223) #[] #[.pointer (some ⟨bx, 0, none⟩)]] w fun e w' =>
  ∃ (v : Value) (ss : List Tx), e = .returned v ∧ ss.Perm (ps.map (·.1)) ∧ w'.ownsRow w.heap.size 42 3 v ss.length (ss.flatMap Tx.cells) ∧ (v = .slice none 0 0 ↔ ss = []) ∧ Below w.heap.size w w' :=
 callsIn_wide.1 (collectT_in Fence.wide 5 trivial trivial rfl (by omega) 223 #[.pointer (some ⟨bx, 0, none⟩)] trivial (enters_of Tryz.func223 (by kernel_rfl) rfl) _ ps.length hl w
  (keysH_gives Fence.wide _ trivial rfl (by omega) bx m ps w hx hb h))
end Go.Proofs.YtcmjgghkmdbphaaGreatDoor
namespace Go.Proofs.YtcmjgghkmdbphaaGreatDoor
open Go.RowKit
theorem tx_equal (a b : Tx) (w : World) : (Op.equal 42 (txE a) (txE b)).run Tryz.prog w = .ok (decide (a = b)) w := by
 have e : decide (a = b) = (a.node == b.node && (a.life == b.life && a.num == b.num)) := by
  obtain ⟨a1, a2, a3⟩ := a
  obtain ⟨b1, b2, b3⟩ := b
  rw [Bool.eq_iff_iff]
  simp
 rw [e]
 unfold txE
 have h1 : Tryz.prog.underlying 42 = some (.struct (Tryz.prog.fieldsOf 42)) := by kernel_rfl
 have h2 := Tryz.underlying3
 rw [show Op.equal 42 (.agg #[.int .i64 a.node, .int .i64 a.life, .int .i64 a.num]) (.agg #[.int .i64 b.node, .int .i64 b.life, .int .i64 b.num]) = Op.equalIn (9999 + 1) 42 (.agg #[.int .i64 a.node, .int .i64 a.life, .int .i64 a.num]) (.agg #[.int .i64 b.node, .int .i64 b.life, .int .i64 b.num]) from rfl,
  run_equalIn_agg w 9999 42 _ _ h1 Tryz.stoodInHeld42]
 have h3 : Tryz.prog.fieldsOf 42 = (match Tryz.prog.underlying 42 with | some (.struct fs) => fs | _ => #[]) := by kernel_rfl
 rw [h3, Tryz.underlying42]
 simp only [Op.eqFields]
 simp [go_sem, Tryz.isAgg3, Sem.run_bind, Sem.run_ite, run_equalIn_int _ 9998 3 .i64 .i64 _ _ h2, Result.andThen]
 by_cases c1 : a.node = b.node <;> by_cases c2 : a.life = b.life <;> by_cases c3 : a.num = b.num <;> simp [c1, c2, c3]
theorem tx_find (k : Tx) (w : World) : ∀ (es : List MapEntry) (ps : List (Tx × Value)) (i : Nat), es.map (fun e => (e.key, e.val)) = ps.map (fun p => (txE p.1, p.2)) → (Instr.findAsking 42 (txE k) es i).run Tryz.prog w = .ok (assocAt k ps i) w
 | [], ps, i, h => by
   cases ps with
   | nil => rfl
   | cons p ps => simp at h
 | e :: es, ps, i, h => by
   cases ps with
   | nil => simp at h
   | cons p ps =>
     simp only [List.map_cons, List.cons.injEq, Prod.mk.injEq] at h
     obtain ⟨⟨h1, h2⟩, h3⟩ := h
     unfold Instr.findAsking
     rw [Sem.run_bind, h1, tx_equal, Result.andThen_ok]
     unfold assocAt
     by_cases hk : k = p.1
     ·rw [decide_eq_true hk, if_pos rfl, if_pos hk, h2]; rfl
     ·rw [jd hk, if_neg (by simp), if_neg hk]
      exact tx_find k w es ps (i + 1) h3
theorem tx_key : KeyOk Tryz.prog 42 txE where
 check b k w := by
  rw [show (10000 : Nat) = 9999 + 1 from rfl, Instr.checkKey]
  have h3 : Tryz.prog.underlying 42 = some (.struct (match Tryz.prog.underlying 42 with | some (.struct fs) => fs | _ => #[])) := by kernel_rfl
  unfold txE
  simp [run_underlying Tryz.underlying42, go_sem, Tryz.isAgg3, Sem.run_bind, Result.andThen]
  have hc : ∀ n, (Instr.checkKey b 9999 3 (.int .i64 n)).run Tryz.prog w = .ok () w := fun n => by
   rw [show (9999 : Nat) = 9998 + 1 from rfl, Instr.checkKey]
   simp [run_underlying Tryz.underlying3]
  simp [hc]
 find k es ps w he := by
  unfold Instr.findKey
  rw [Sem.run_bind, run_underlying Tryz.underlying42, Result.andThen_ok]
  cases es with
  | nil =>
    cases ps with
    | nil => rfl
    | cons p ps => simp at he
  | cons e es =>
    have hn : ∀ fs, Instr.findNow (.struct fs) (txE k) (e :: es) 0 = none := fun fs => by
     unfold Instr.findNow Instr.sameNow txE
     rfl
    rw [hn]
    exact tx_find k w _ ps 0 he
 stays k w := by
  have h : ∀ n, Instr.sameBits (n + 2) (txE k) (txE k) = true := fun n => by
   unfold txE
   simp [Instr.sameBits]
  have h' : Instr.sameBits 10000 (txE k) (txE k) = true := h 9998
  simp [Instr.keyThatStays, h']
def MapV (w : World) (v : Value) (ps : List (Tx × Value)) : Prop := (v = .map none ∧ ps = []) ∨ ∃ m, v = .map (some m) ∧ MapAt txE w m ps
theorem MapV.ext {w w' : World} {v : Value} {ps : List (Tx × Value)} (h : MapV w v ps) (hb : Below w.heap.size w w') : MapV w' v ps := by
 rcases h with h | ⟨m, e, h⟩
 ·exact .inl h
 ·exact .inr ⟨m, e, h.ext hb⟩
def GotMap (w : World) (ps : List (Tx × Value)) (e : Ending) (w' : World) : Prop := ∃ m, e = .returned (.map (some m)) ∧ w.heap.size ≤ m ∧ MapAt txE w' m ps
theorem cloneH_at (m : Nat) (ps : List (Tx × Value)) (w : World) (h : MapAt txE w m ps) : Calls Tryz.prog 258 #[.map (some m)] w fun e w' => e = .returned (.map (some w.heap.size)) ∧ MapAt txE w' w.heap.size ps ∧ Below w.heap.size w w' := by
 obtain ⟨es, clk, h1, h2, h3, h4⟩ := h
 refine (AnyW.maps_Clone Tryz.cloneH m es clk w h1).mono ?_
 rintro e w' ⟨rfl, rfl⟩
 exact ⟨rfl, ⟨es, clk, heap_alloc_new w _, h2, h3, h4⟩, (jb _ _).al _⟩
theorem cloneH_nil (w : World) : Calls Tryz.prog 258 #[.map none] w fun e w' => e = .returned (.map none) ∧ w' = w := AnyW.maps_Clone_nil Tryz.cloneH w
theorem MapAt.new' {κ : Type} {enc : κ → Value} (X : World) (m : Nat) (h : m = X.heap.size) : MapAt enc (X.alloc (.map #[] 0)) m ([] : List (κ × Value)) := by subst h; exact MapAt.new X
theorem withH_any (v : Value) (ps : List (Tx × Value)) (t : Tx) (a0 a1 a2 b0 b1 b2 : Int) (k : Str) (pA fA : Option Addr) (pl pc fl fc : Nat) (w : World) (hv : MapV w v ps) : Calls Tryz.prog 173 #[v, txE t, .agg #[.int .i64 a0, .int .i64 a1, .int .i64 a2, .string k, .slice pA pl pc, .int .i64 b0, .int .i64 b1, .int .i64 b2, .slice fA fl fc]] w fun e w' => GotMap w (assocPut t (.agg #[.int .i64 a0, .int .i64 a1, .int .i64 a2, .string k, .slice pA pl pc, .int .i64 b0, .int .i64 b1, .int .i64 b2, .slice fA fl fc]) ps) e w' ∧ Below w.heap.size w w' := by
 have hmm := @run_makeMap Tryz.prog
 have hqn := fun w => run_eql_map_nil_sl (P := Tryz.prog) w 172 _ _ none Tryz.underlying172
 have hqs := fun (m : Nat) w => run_eql_map_nil_sl (P := Tryz.prog) w 172 _ _ (some m) Tryz.underlying172
 have CN := cloneH_nil
 have CA := cloneH_at
 unfold txE
 rcases hv with ⟨rfl, rfl⟩ | ⟨m, rfl, hM⟩
 ·go_enter Tryz.func173, Tryz.ntmps173
  go_wp2_with fail
  refine (CN _).mono ?_
  rintro e w' ⟨rfl, rfl⟩
  go_wp2_with (first
   | (at_mapUpdate; refine wpList_mapUpdate_map tx_key rfl rfl (.tmp 13) (.tmp 14) (.tmp 15) 172 rfl Tryz.underlying172 rfl (MapAt.new' _ _ (by simp)) t rfl _ rfl ?_; intro w4 hM4 hO4)
   | fail)
  go_ret
  refine ⟨⟨_, rfl, by omega, hM4⟩, ?_⟩
  refine Below.trans ?_ (hO4.low (fun g hg => by rw [hg]; omega) (by simp; omega))
  repeat (with_reducible first | assumption | exact jb _ _ | refine Below.al ?_ _ | refine Below.drew ?_ | apply Below.st1)
 ·have hml := hM.lt
  have B0 := (Blk.new w 42 [.int .i64 t.node, .int .i64 t.life, .int .i64 t.num]).alloc (.cells #[.int .i64 a0, .int .i64 a1, .int .i64 a2, .string k, .slice pA pl pc, .int .i64 b0, .int .i64 b1, .int .i64 b2, .slice fA fl fc] 192)
  have B1 := Blk.new1 w (.cells #[.int .i64 t.node, .int .i64 t.life, .int .i64 t.num] 42) 192 [.int .i64 a0, .int .i64 a1, .int .i64 a2, .string k, .slice pA pl pc, .int .i64 b0, .int .i64 b1, .int .i64 b2, .slice fA fl fc]
  go_enter Tryz.func173, Tryz.ntmps173
  go_wp2_with fail
  refine (CA m ps _ (hM.ext (by repeat (with_reducible first | assumption | exact jb _ _ | refine Below.al ?_ _ | refine Below.drew ?_ | apply Below.st1)))).mono ?_
  rintro e w' ⟨rfl, hM2, hb2⟩
  have hM2 : MapAt txE w' (w.heap.size + 1 + 1) ps := by simpa using hM2
  have B0 := B0.ext hb2
  have B1 := B1.ext hb2
  have hw2 := Below.tr (a := w) (by repeat (with_reducible first | assumption | exact jb _ _ | refine Below.al ?_ _ | refine Below.drew ?_ | apply Below.st1)) hb2
  have hz2 := hb2.size
  go_wp2_with (first
   | ((with_reducible refine wpList_load_blk rfl rfl ?_ B0 Tryz.underlying42 rfl (by kernel_rfl) ?_); · rfl)
   | ((with_reducible refine wpList_load_blk rfl rfl ?_ B1 Tryz.underlying192 rfl (by kernel_rfl) ?_); · rfl)
   | (at_mapUpdate; refine wpList_mapUpdate_map tx_key rfl rfl (.tmp 13) (.tmp 14) (.tmp 15) 172 rfl Tryz.underlying172 rfl hM2 t rfl _ rfl ?_; intro w4 hM4 hO4)
   | fail)
  go_ret
  exact ⟨⟨_, rfl, by omega, hM4⟩, hw2.trans (hO4.low (fun g hg => by rw [hg]; omega) hw2.size)⟩
end Go.Proofs.YtcmjgghkmdbphaaGreatDoor
namespace Go.Proofs.YtcmjgghkmdbphaaGreatDoor
open Go.RowKit
def BusyOk (g : Nat) (s : St) (w : World) : Prop := ∀ (n : Str) (W : World), sfit n → Below w.heap.size w W → Calls Tryz.prog 112 #[ptrV g, .string n] W fun e w' => e = .returned (.bool (busyS s n)) ∧ Below W.heap.size W w'
end Go.Proofs.YtcmjgghkmdbphaaGreatDoor
namespace Go.Proofs.YtcmjgghkmdbphaaGreatDoor
open Go.RowKit
theorem has_any (r : Range) (h : Int) (w : World) : Calls Tryz.prog 122 #[r.val, .int .i64 h] w fun e w' => e = .returned (.bool (r.has h)) ∧ Below w.heap.size w w' := by
 unfold Range.val
 go_enter Tryz.func122, Tryz.ntmps122
 go_wp2
 all_goals
  go_ret
  refine ⟨ret_bool ?_, by repeat (with_reducible first | assumption | exact jb _ _ | refine Below.al ?_ _ | refine Below.drew ?_ | apply Below.st1)⟩
  go_light
  unfold Range.has
  rw [Bool.eq_iff_iff]
  simp at *
  omega
theorem busyAt_any (n : Str) (b : Nat) (x : Put) (A : Option Addr) (c : Nat) (w : World) (hb : w.cell? ⟨b, 0, none⟩ = some (.string n)) : Calls Tryz.prog 210 #[.agg #[.string x.stream, .int .i64 x.expect, .slice A x.data.length c], .pointer (some ⟨b, 0, none⟩)] w fun e w' => e = .returned (.bool (decide (x.stream = n))) ∧ Below w.heap.size w w' := by
 have hb' : (w.alloc (.cells #[.string x.stream, .int .i64 x.expect, .slice A x.data.length c] 69)).cell? ⟨b, 0, none⟩ = some (.string n) := (Below.cell ((jb _ w).al _) (p := ⟨b, 0, none⟩) (lt_of_cell hb)).trans hb
 have heq : (x.stream.toList == n.toList) = decide (x.stream = n) := by
  by_cases h : x.stream = n
  ·subst h; simp
  ·rw [str_ne h, jd h]
 have HE := jh heq
 clear heq
 go_enter Tryz.func210, Tryz.ntmps210
 go_wp2_with fail
 go_ret
 exact ⟨ret_bool HE.out, (jb _ _).al _⟩
theorem enters_busy : ∀ args w, (callFunc 210 args).run Tryz.prog w = .ok (.enter 210 args) w := enters_of Tryz.func210 (by kernel_rfl) rfl
def Held.cellsV (h : Held) (pA : Option Addr) (pc : Nat) (fA : Option Addr) (fc : Nat) : List Value :=
 [.int .i64 h.tx.node, .int .i64 h.tx.life, .int .i64 h.tx.num, .string h.batch.key, .slice pA h.batch.puts.length pc, .int .i64 h.stamp.wall, .int .i64 h.stamp.logic, .int .i64 h.stamp.node, .slice fA h.firsts.length fc]
theorem held_rep {w : World} {P : Nat → Prop} {cs : List Value} {h : Held} : HeldR.rep w P cs h ↔ ∃ pA pc fA fc, cs = h.cellsV pA pc fA fc ∧ h.tx.fit ∧ sfit h.batch.key ∧ h.stamp.fit ∧ (h.batch.puts.length ≤ pc ∧ pc ≤ 9223372036854775807 ∧ PutR.Row w P pA h.batch.puts) ∧ (h.firsts.length ≤ fc ∧ fc ≤ 9223372036854775807 ∧ IntR.Row w P fA h.firsts) := by
 constructor
 ·rintro ⟨c1, c2, rfl, htx, c3, c4, rfl, hb, c5, c6, rfl, hst, ⟨fA, fc, rfl, f1, f2, f3⟩⟩
  obtain ⟨rfl, h1⟩ := tx_rep.1 htx
  obtain ⟨pA, pc, rfl, b1, b2, b3, b4⟩ := batch_rep.1 hb
  obtain ⟨rfl, h2⟩ := stamp_rep.1 hst
  exact ⟨pA, pc, fA, fc, rfl, h1, b1, h2, ⟨b2, b3, b4⟩, ⟨f1, f2, f3⟩⟩
 ·rintro ⟨pA, pc, fA, fc, rfl, h1, b1, h2, ⟨b2, b3, b4⟩, ⟨f1, f2, f3⟩⟩
  exact ⟨_, _, rfl, tx_rep.2 ⟨rfl, h1⟩, _, _, rfl, batch_rep.2 ⟨pA, pc, rfl, b1, b2, b3, b4⟩, _, [_], rfl, stamp_rep.2 ⟨rfl, h2⟩, fA, fc, rfl, f1, f2, f3⟩
theorem eraseIdx_mem {α : Type} {l : List α} {i : Nat} {x y : α} (h : l[i]? = some x) (hy : y ∈ l) : y = x ∨ y ∈ l.eraseIdx i := by
 induction l generalizing i with
 | nil => simp at hy
 | cons a l ih =>
   cases i with
   | zero =>
     simp at h; subst h
     rcases List.mem_cons.1 hy with rfl | hy
     ·exact .inl rfl
     ·exact .inr (by simpa using hy)
   | succ i =>
     simp at h
     rcases List.mem_cons.1 hy with rfl | hy
     ·exact .inr (by simp)
     ·rcases ih h hy with e | e
      ·exact .inl e
      ·exact .inr (by simp [e])
def HeldFair (s : St) : Prop := ∀ x ∈ s.held, x.2.batch.puts.length ≤ 1000000
theorem held_same {w w' : World} {P : Nat → Prop} {LA : List (Tx × (Held × List Value))} (h : ∀ p ∈ LA, HeldR.rep w P p.2.2 p.2.1) (hb : Below w.heap.size w w') : ∀ p ∈ LA, HeldR.rep w' P p.2.2 p.2.1 := fun p hp => HeldR.same (h p hp) (js hb)
theorem any_erase {α : Type} {l left : List α} {q : α → Bool} {i : Nat} {x : α} (h : l.any q = left.any q) (hi : left[i]? = some x) (hx : q x = false) : l.any q = (left.eraseIdx i).any q := by
 rw [h]
 rw [Bool.eq_iff_iff, List.any_eq_true, List.any_eq_true]
 constructor
 ·rintro ⟨y, hy, hq⟩
  rcases eraseIdx_mem hi hy with rfl | hy
  ·rw [hx] at hq; cases hq
  ·exact ⟨y, hy, hq⟩
 ·rintro ⟨y, hy, hq⟩
  exact ⟨y, List.mem_of_mem_eraseIdx hy, hq⟩
theorem wpList_next_held {P : Program} {ops : Array Oper} {rest : List Oper} {o : Oper} {a : Act} {Q : Exit → Act → World → Prop} {it m : Nat} {w : World} {R : Nat → Prop} {left : List (Tx × (Held × List Value))}
 (hg : o.guard = none) (ito : Operand) (hop : o.op = Op.next ito false) (hit : a.eval ito = .pointer (some ⟨it, 0, none⟩)) (h : IterAt txE w it m (left.map fun p => (p.1, aggV p.2.2))) (hr : ∀ p ∈ left, HeldR.rep w R p.2.2 p.2.1)
 (hDone : left = [] → wpList P ops Q rest (a.put o.dst (.tuple #[.bool false])) w)
 (hMore : ∀ (i : Nat) (t : Tx) (h : Held) (pA fA : Option Addr) (pc fc : Nat) (w' : World), left[i]? = some (t, (h, h.cellsV pA pc fA fc)) → (h.batch.puts.length ≤ pc ∧ pc ≤ 9223372036854775807 ∧ PutR.Row w R pA h.batch.puts) →
  IterAt txE w' it m ((left.eraseIdx i).map fun p => (p.1, aggV p.2.2)) → Only (· = it) w w' → w'.heap.size = w.heap.size →
  (Instr.entry (.pointer (some ⟨it, 0, none⟩))).run P w' = .ok (.tuple #[txE t, .agg #[.int .i64 h.tx.node, .int .i64 h.tx.life, .int .i64 h.tx.num, .string h.batch.key, .slice pA h.batch.puts.length pc, .int .i64 h.stamp.wall, .int .i64 h.stamp.logic, .int .i64 h.stamp.node, .slice fA h.firsts.length fc]]) w' → wpList P ops Q rest (a.put o.dst (.tuple #[.bool true, txE t, .agg #[.int .i64 h.tx.node, .int .i64 h.tx.life, .int .i64 h.tx.num, .string h.batch.key, .slice pA h.batch.puts.length pc, .int .i64 h.stamp.wall, .int .i64 h.stamp.logic, .int .i64 h.stamp.node, .slice fA h.firsts.length fc]])) w') : wpList P ops Q (o :: rest) a w := by
 refine wpList_next_map hg ito hop hit h (fun h0 => hDone (by simpa using h0)) (fun i p w3 hp hit3 hO3 hz3 hen => ?_)
 rw [List.getElem?_map] at hp
 obtain ⟨q, hq, rfl⟩ := Option.map_eq_some_iff.1 hp
 obtain ⟨t, hd, cs⟩ := q
 have hh := hr _ (List.mem_of_getElem? hq)
 dsimp only at hh
 obtain ⟨pA, pc, fA, fc, rfl, h1, h2, h3, h4, h5⟩ := held_rep.1 hh
 rw [← map_erase] at hit3
 exact hMore i t hd pA fA pc fc w3 hq h4 hit3 hO3 hz3 (hen w3 rfl rfl)
theorem busy_any (g : Nat) (s : St) (n : Str) (P : Nat → Prop) (w : World) (h : StAt w P g s) (_hl : s.frozen.length ≤ 1000000) (hp : HeldFair s) (hn : sfit n) : Calls Tryz.prog 112 #[ptrV g, .string n] w fun e w' => e = .returned (.bool (busyS s n)) ∧ Below w.heap.size w w' := by
 obtain ⟨v, hB, hI⟩ := h
 have hb0 := (jb w.heap.size w).al (.cells #[.string n] 9)
 have hB0 := hB.alloc (.cells #[.string n] 9)
 have BN := Blk.new w 9 [.string n]
 have CH := fun W => hashI_any n W hn
 obtain ⟨Af, cf, hv, _, _, hrowf⟩ := hI.frozen
 obtain hvf : v.frozen = .slice Af s.frozen.length cf := by injection hv
 have b9 : (w.alloc (.cells #[.string n] 9)).cell? ⟨g, 9, none⟩ = some v.frozen := hB0.cell 9
 rw [hvf] at b9
 have CHS := jh (fun r h W => has_any r h W)
 unfold Range.val at CHS
 have HR := jh (hrowf.mono (Q := fun g => g < w.heap.size) fun g _ h => h)
 have HI := jh (ja hI hB)
 have HHP := jh hp
 have hgl := hB.lt
 have HBS := jh (show busyS s n = (s.frozen.any (fun f => f.range.has (hashS n)) || s.held.any (fun x => x.2.batch.puts.any fun p => decide (p.stream = n))) from rfl)
 clear hI hv hvf hrowf hB hp
 have HN0 := jh hn
 clear hn
 unfold ptrV
 go_enter Tryz.func112, Tryz.ntmps112
 go_wp2_with fail
 refine (CH _).mono ?_
 clear CH
 rintro e w' ⟨rfl, rfl⟩
 go_wp2_with fail
 clear b9
 have hz0 : (w.alloc (.cells #[.string n] 9)).heap.size = w.heap.size + 1 := by simp
 generalize (w.alloc (.cells #[.string n] 9)) = w0 at *
 go_loopw [17] (fun i wr => ∃ k : Nat, k ≤ s.frozen.length ∧ i = .int .i64 k ∧ (s.frozen.any (fun f => f.range.has (hashS n))) = ((s.frozen.drop k).any fun f => f.range.has (hashS n)) ∧ Below w0.heap.size w0 wr) (fun i _ => s.frozen.length - (intOf i).toNat)
 case atStart => exact ⟨0, Nat.zero_le _, rfl, rfl, jb _ _⟩
 case round =>
  obtain ⟨k, hk, rfl, hno, hbl⟩ := hrel
  have HN := jh hno; clear hno
  by_cases hlt : k < s.frozen.length
  ·have hlk := jg hlt
   have hdr := List.drop_eq_getElem_cons hlt
   obtain ⟨bb, o, cs, rfl, hP, hbw, hrep, hcs⟩ := (HR.out.ext (hb0.trans (hbl.mono hb0.size))).at_ hlk
   generalize s.frozen[k] = x at hlk hrep hdr
   obtain ⟨nA, nc, pA, pc, sA, sc, rfl, hat⟩ := rec_rep.1 hrep
   unfold Rec.cells at hcs
   rw [RecR_size] at hcs
   have HCS := jh hcs
   have HDR := jh hdr
   have hlt' : (k : Int) < s.frozen.length := by omega
   clear hcs hrep hlk hat hP hbw hdr
   have hbx := hbl.tr ((jb wr.heap.size wr).al (.cells (x.cells nA nc pA pc sA sc).toArray 46))
   have BX := Blk.new wr 46 (x.cells nA nc pA pc sA sc)
   unfold Rec.cells at BX hbx
   go_upto_region 5 with (first
    | ((with_reducible refine wpList_load_at rfl rfl ?_ HCS.out Tryz.underlying46 rfl (by kernel_rfl) ?_); · rfl)
    | (refine wpList_store_new rfl rfl rfl rfl rfl (by kernel_rfl) rfl rfl ?_)
    | fail)
   generalize hw5 : wr.alloc (.cells #[.int .i64 x.kind, .int .i64 x.n, .int .i64 x.to, .bool x.yes, .int .i64 x.stamp.wall, .int .i64 x.stamp.logic, .int .i64 x.stamp.node, .int .i64 x.tx.node, .int .i64 x.tx.life, .int .i64 x.tx.num, .slice nA x.nodes.length nc, .string x.batch.key, .slice pA x.batch.puts.length pc, .int .i64 x.range.first, .int .i64 x.range.last, .int .i64 x.range.owner, .int .i64 x.range.epoch, .slice sA x.streams.length sc] 46) = w5 at *
   have c13 : w5.cell? ⟨wr.heap.size, 13, none⟩ = some (.int .i64 x.range.first) := BX.cell 13
   have c14 : w5.cell? ⟨wr.heap.size, 14, none⟩ = some (.int .i64 x.range.last) := BX.cell 14
   have c15 : w5.cell? ⟨wr.heap.size, 15, none⟩ = some (.int .i64 x.range.owner) := BX.cell 15
   have c16 : w5.cell? ⟨wr.heap.size, 16, none⟩ = some (.int .i64 x.range.epoch) := BX.cell 16
   clear hw5 BX
   go_wp2_with fail
   refine (CHS.out x.range (hashS n) w5).mono ?_
   clear c13 c14 c15 c16
   cases hq : x.range.has (hashS n)
   ·have HQ := jh hq; clear hq
    rintro e w6 ⟨rfl, hb6⟩
    have hb6' := hbx.tr hb6
    go_wp2_with fail
    go_round
    case rel => exact ⟨k + 1, by omega, by go_num, by rw [HN.out, HDR.out, List.any_cons, HQ.out]; rfl, hb6'⟩
    case measure => simp [intOf]; omega
   ·have HQ := jh hq; clear hq
    rintro e w6 ⟨rfl, hb6⟩
    have hb6' := hbx.tr hb6
    go_wp2_with fail
    go_ret
    exact ⟨ret_bool (by rw [HBS.out, HN.out, HDR.out, List.any_cons, HQ.out]; simp), hb0.trans (hb6'.mono hb0.size)⟩
  ·have hkn : k = s.frozen.length := by omega
   subst hkn
   have HF0 := jh (show (s.frozen.any fun f => f.range.has (hashS n)) = false from by rw [HN.out, List.drop_length]; rfl)
   have hlo := hb0.trans (hbl.mono hb0.size)
   have b6 : wr.cell? ⟨g, 6, none⟩ = some v.held := (HI.out.2.ext hlo).cell 6
   have BNr := jh (BN.ext hbl)
   obtain ⟨hnd, hh⟩ := HI.out.1.held
   have HLO := jh hlo
   clear BN hnd hk hlo hbl
   rcases hh with ⟨hv, hnil⟩ | ⟨m, LA, hv, hPm, hMA, hrep, hl⟩
   ·rw [hv] at b6
    go_wp2_with (first
     | (at_range; refine wpList_range_nil rfl (.tmp 29) _ rfl Tryz.underlying172 rfl ?_; intro w2 hit hb2 hz2)
     | fail)
    go_frame
    go_loopw [31] (fun _ wq => wq = w2) (fun _ _ => 0)
    case atStart => rfl
    case round =>
     obtain rfl := hrel
     go_wp2_with (first
      | (at_next; refine wpList_next_nil rfl (.tmp 30) rfl rfl hit ?_)
      | fail)
     go_ret
     exact ⟨ret_bool (by rw [HBS.out, HF0.out, hnil]; rfl), HLO.out.tr hb2⟩
   ·rw [hv] at b6
    have hMA' := hMA.ext HLO.out
    have HRP := jh (show ∀ p ∈ LA, HeldR.rep wr (fun g => P g ∧ g < wr.heap.size) p.2.2 p.2.1 from fun p hp => HeldR.mono (held_same hrep HLO.out p hp) (fun g h1 h2 => ⟨h1, h2⟩))
    have HLL := jh (show (s.held.any fun x => x.2.batch.puts.any fun p => decide (p.stream = n)) = LA.any fun p => p.2.1.batch.puts.any fun x => decide (x.stream = n) from by rw [hl, List.any_map]; rfl)
    clear hrep hl hMA hv hPm
    go_wp2_with (first
     | (at_range; refine wpList_range_map rfl (.tmp 29) _ rfl Tryz.underlying172 rfl hMA' ?_; intro w2 hit hb2 hz2)
     | fail)
    try go_frame
    clear b6 hMA'
    generalize hwo : wr = wo at *
    clear hwo
    have hzo : wo.heap.size = wo.heap.size := rfl
    go_loopw [31] (fun _ wq => ∃ left : List (Tx × (Held × List Value)), IterAt txE wq wo.heap.size m (left.map fun p => (p.1, aggV p.2.2)) ∧ (∀ p ∈ left, p ∈ LA) ∧ (LA.any fun p => p.2.1.batch.puts.any fun x => decide (x.stream = n)) = (left.any fun p => p.2.1.batch.puts.any fun x => decide (x.stream = n)) ∧ Below wo.heap.size wo wq) (fun _ wq => leftLen wq wo.heap.size m)
    case atStart => exact ⟨LA, hit, fun _ h => h, rfl, hb2⟩
    case round =>
     obtain ⟨left, hiq, hsub, hany, hbq⟩ := hrel
     have HANY := jh hany
     have HSUB := jh hsub
     have held_rep_at : ∀ {p : Tx × (Held × List Value)}, p ∈ left → HeldR.rep wr (fun g => P g ∧ g < wo.heap.size) p.2.2 p.2.1 := fun {p} hp => HeldR.same (HRP.out p (hsub p hp)) (Same.of_belowB hbq fun g hg => hg.2)
     clear hany hsub hit
     go_wp2_with (first
      | (at_next; refine wpList_next_held rfl (.tmp 30) rfl rfl hiq (fun p hp => held_rep_at hp) (fun h0 => ?_) (fun i t h pA fA pc fc w3 hp hrow hit3 hO3 hz3 hen => ?_))
      | fail)
     ·go_ret
      exact ⟨ret_bool (by rw [HBS.out, HF0.out, HLL.out, HANY.out, h0]; rfl), HLO.out.tr hbq⟩
     ·have hb3 : Below wo.heap.size wo w3 := hbq.trans (hO3.low (fun g hg => by rw [hg]; omega) hbq.size)
      have hb4 := hb3.al (.cells #[.int .i64 h.tx.node, .int .i64 h.tx.life, .int .i64 h.tx.num, .string h.batch.key, .slice pA h.batch.puts.length pc, .int .i64 h.stamp.wall, .int .i64 h.stamp.logic, .int .i64 h.stamp.node, .slice fA h.firsts.length fc] 192)
      have hrow4 := (hrow.2.2.same (Same.of_only hO3 fun g hg e => by have e' : g = wo.heap.size := e; have := hg.2; omega) (by omega)).ext ((jb w3.heap.size w3).al (.cells #[.int .i64 h.tx.node, .int .i64 h.tx.life, .int .i64 h.tx.num, .string h.batch.key, .slice pA h.batch.puts.length pc, .int .i64 h.stamp.wall, .int .i64 h.stamp.logic, .int .i64 h.stamp.node, .slice fA h.firsts.length fc] 192))
      have BN4 := BNr.out.ext hb4
      have hit4 := hit3.ext ((jb w3.heap.size w3).al (.cells #[.int .i64 h.tx.node, .int .i64 h.tx.life, .int .i64 h.tx.num, .string h.batch.key, .slice pA h.batch.puts.length pc, .int .i64 h.stamp.wall, .int .i64 h.stamp.logic, .int .i64 h.stamp.node, .slice fA h.firsts.length fc] 192))
      have hlen4 : (left.eraseIdx i).length < left.length := by
       have := (List.getElem?_eq_some_iff.1 hp).1
       rw [List.length_eraseIdx, if_pos this]; omega
      have hleft := hiq.len
      have C := hasF_Put 210 [.pointer (some ⟨w.heap.size, 0, none⟩)] (fun x => decide (x.stream = n)) enters_busy pA pc h.batch.puts _ (w3.alloc (.cells #[.int .i64 h.tx.node, .int .i64 h.tx.life, .int .i64 h.tx.num, .string h.batch.key, .slice pA h.batch.puts.length pc, .int .i64 h.stamp.wall, .int .i64 h.stamp.logic, .int .i64 h.stamp.node, .slice fA h.firsts.length fc] 192)) hrow4 (by have := hrow.1; have := hrow.2.1; omega) (fun a cs W ha hra hb => by
       obtain ⟨Ax, cx, rfl, _⟩ := put_rep.1 hra
       exact busyAt_any n w.heap.size a Ax cx W ((BN4.ext hb).cell 0))
      have H4 := jh (ja hb4 (ja hit4 (ja hlen4 hleft)))
      have HP := jh hp
      clear hb3 hb4 hrow4 BN4 hit4 hlen4 hleft hen hit3 hO3 hz3 hrow hp hiq held_rep_at
      refine C.mono ?_
      clear C
      cases hq : h.batch.puts.any fun x => decide (x.stream = n)
      ·have HQ := jh hq; clear hq
       rintro e w5 ⟨rfl, hb5⟩
       have hb5' := H4.out.1.tr hb5
       have hit5 := H4.out.2.1.ext hb5
       go_wp2_with fail
       go_round
       case rel => exact ⟨left.eraseIdx i, hit5, fun p hp => HSUB.out p (List.mem_of_mem_eraseIdx hp), any_erase HANY.out HP.out HQ.out, hb5'⟩
       case measure =>
        have h1 := hit5.len
        have h2 := H4.out.2.2.1
        have h3 := H4.out.2.2.2
        simp only [List.length_map] at h1 h3
        omega
      ·have HQ := jh hq; clear hq
       rintro e w5 ⟨rfl, hb5⟩
       have hb5' := H4.out.1.tr hb5
       go_wp2_with fail
       go_ret
       refine ⟨ret_bool ?_, HLO.out.tr hb5'⟩
       rw [HBS.out, HF0.out, HLL.out, Bool.false_or, eq_comm, List.any_eq_true]
       exact ⟨_, HSUB.out _ (List.mem_of_getElem? HP.out), HQ.out⟩
end Go.Proofs.YtcmjgghkmdbphaaGreatDoor
