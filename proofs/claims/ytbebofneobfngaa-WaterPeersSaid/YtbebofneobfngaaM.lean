/- The mark of all rises: the law's walk. -/
import Derived.Test.YtbebofneobfngaaK
namespace Go.Proofs.Ytbebofneobfngaa
open Go.RowKit
attribute [local go_sem] St.cells St.val Peer.cells headC

/-- The steps lie in memory. -/
def StpsAt (w : World) (B : Nat) (A : Option Addr) (ss : List Stp) : Prop := 0 < ss.length → ∃ b o, A = some ⟨b, o, none⟩ ∧ ∀ (i : Nat) (s : Stp), ss[i]? = some s → StpAt w B b (o + i * 8) s

/-- A table of the law's, behind some events. -/
structure Good (n : Nat) (total : Nat) (T : Tab) : Prop where
  self : T.self = 1
  len : T.ps.length = n + 1
  few : ∀ (i : Nat) (p : Peer), T.ps[i]? = some p → p.n ≤ total

theorem good0 (n : Nat) : Good n 0 (tab0 1 n) := by
  refine ⟨rfl, by simp [tab0], fun i p hp => ?_⟩
  have := List.eq_of_mem_replicate (List.mem_of_getElem? hp)
  subst this
  exact Nat.le_refl _

theorem Good.step {n total m : Nat} {T T' : Tab} {node fr to : Int} {mark : St} {b : Bool} (h : Good n total T) (hs : StepT T node fr to m mark b T') : Good n (total + m) T' := by
  rcases hs with ⟨_, rfl⟩ | ⟨_, j, p, ev', rfl, hp, _, _, rfl⟩
  · exact ⟨h.self, h.len, fun i q hq => Nat.le_trans (h.few i q hq) (Nat.le_add_right _ _)⟩
  · refine ⟨h.self, by simp [Tab.put, h.len], fun i q hq => ?_⟩
    simp only [Tab.put] at hq
    by_cases hij : i = j
    · subst hij
      rw [List.getElem?_set_self (List.getElem?_eq_some_iff.1 hp).1] at hq
      cases hq
      exact Nat.add_le_add_right (h.few i p hp) m
    · rw [List.getElem?_set_ne (Ne.symm hij)] at hq
      exact Nat.le_trans (h.few i q hq) (Nat.le_add_right _ _)

theorem sizes_take (ss : List Stp) (k : Nat) (h : k < ss.length) : sizes (ss.take (k + 1)) = sizes (ss.take k) + ss[k].m := by
  rw [take_snoc _ _ h, sizes_snoc]
theorem sizes_le (ss : List Stp) (k : Nat) : sizes (ss.take k) ≤ sizes ss := by
  induction ss generalizing k with
  | nil => simp
  | cons s l ih =>
    cases k with
    | zero => simp [sizes]
    | succ k => simp only [List.take_succ_cons, sizes]; have := ih k; omega

def RisesRel (B n : Nat) (ss : List Stp) (own : St) (tb pb ob lb : Nat) (w0 : World) (k : Nat) (w : World) : Prop :=
  ∃ T, Good n (sizes (ss.take k)) T ∧ TabAt w B tb pb T ∧ Below B w0 w ∧ Blk w ob 24 own.cells ∧ Blk w lb 24 (waterT T own).cells

theorem own_far {w : World} {base n : Nat} {v : Value} {xs cs : List Value} {g t o : Nat} {u : Value} (h : w.ownsRow base 41 7 v n xs) (hb : Blk w g t cs) (h3 : t ≠ 41) : (w.setCell ⟨g, o, none⟩ u).ownsRow base 41 7 v n xs := by
  refine ⟨h.1, ?_⟩
  rcases h.2 with hn | ⟨g', cap, cur, hv, hbg, hg, rest⟩
  · exact .inl hn
  · refine .inr ⟨g', cap, cur, hv, hbg, ?_, rest⟩
    have hB : Blk w g' 41 cur.toList := by unfold Blk; simpa using hg
    have := hB.far (p := ⟨g, o, none⟩) (hB.ne_ hb (Ne.symm h3)) u
    unfold Blk at this; simpa using this
theorem TabAt.far {w : World} {base tb pb : Nat} {T : Tab} {cs : List Value} {g t : Nat} (h : TabAt w base tb pb T) (hb : Blk w g t cs) (h1 : t ≠ 52) (h2 : t ≠ 56) (h3 : t ≠ 41) (o : Nat) (u : Value) : TabAt (w.setCell ⟨g, o, none⟩ u) base tb pb T :=
  ⟨h.head.far (p := ⟨g, o, none⟩) (h.head.ne_ hb (Ne.symm h1)) u, h.row.far (p := ⟨g, o, none⟩) (h.row.ne_ hb (Ne.symm h2)) u, h.b1, h.b2, h.few, (fun i p hp => by
    obtain ⟨h0, xs, hx, h1⟩ := h.evs i p hp
    exact ⟨h0, xs, own_far hx hb h3, h1⟩), h.apart⟩

theorem rises_store {B n ob lb tb pb tot : Nat} {T : Tab} {own a b : St} {w0 W : World} (hG : Good n tot T) (hT : TabAt W B tb pb T) (hbl : Below B w0 W) (hO : Blk W ob 24 own.cells) (hL : Blk W lb 24 a.cells) (hne : ob ≠ lb) (hB : B ≤ lb) (hb : b = waterT T own) :
    ∃ T, Good n tot T ∧ TabAt (((W.setCell ⟨lb, 0, none⟩ (.int .i64 b.wall)).setCell ⟨lb, 1, none⟩ (.int .i64 b.logic)).setCell ⟨lb, 2, none⟩ (.int .i64 b.node)) B tb pb T ∧ Below B w0 (((W.setCell ⟨lb, 0, none⟩ (.int .i64 b.wall)).setCell ⟨lb, 1, none⟩ (.int .i64 b.logic)).setCell ⟨lb, 2, none⟩ (.int .i64 b.node)) ∧
      Blk (((W.setCell ⟨lb, 0, none⟩ (.int .i64 b.wall)).setCell ⟨lb, 1, none⟩ (.int .i64 b.logic)).setCell ⟨lb, 2, none⟩ (.int .i64 b.node)) ob 24 own.cells ∧ Blk (((W.setCell ⟨lb, 0, none⟩ (.int .i64 b.wall)).setCell ⟨lb, 1, none⟩ (.int .i64 b.logic)).setCell ⟨lb, 2, none⟩ (.int .i64 b.node)) lb 24 (waterT T own).cells := by
  subst hb
  have l1 := hL.set_ 0 (.int .i64 (waterT T own).wall)
  have l2 := l1.set_ 1 (.int .i64 (waterT T own).logic)
  have l3 := l2.set_ 2 (.int .i64 (waterT T own).node)
  refine ⟨T, hG, ((hT.far hL (by decide) (by decide) (by decide) 0 _).far l1 (by decide) (by decide) (by decide) 1 _).far l2 (by decide) (by decide) (by decide) 2 _, ((hbl.setCell hB _).setCell hB _).setCell hB _, ?_, l3⟩
  exact ((hO.far (p := ⟨lb, 0, none⟩) hne _).far (p := ⟨lb, 1, none⟩) hne _).far (p := ⟨lb, 2, none⟩) hne _

theorem nextT_bd {n total : Nat} {T : Tab} (h : Good n total T) (node : Int) : 0 ≤ nextT T node ∧ nextT T node ≤ total := by
  unfold nextT
  split
  · split
    · rename_i p hp
      have := h.few _ p hp
      omega
    · omega
  · omega

theorem wpStill_quiet_app {P : Program} {ops : Array Oper} {w : World} {Qs : Act → Prop} {l2 : List Oper} : ∀ {l : List Oper} {a : Act}, wpQuiet P ops (fun w' => w' = w) (fun a => wpStill P ops w Qs l2 a) l a → wpStill P ops w Qs (l ++ l2) a
  | [], _, h => h
  | o :: l, a, h => by
    unfold wpQuiet at h
    rw [List.cons_append]
    unfold wpStill
    split
    · rename_i hw
      rw [if_pos hw] at h
      obtain ⟨v, hv, hn⟩ := h
      have h1 := hv w rfl
      unfold Oper.quietAt at h1
      unfold Oper.still
      generalize (execOp a.eval o).run P w = r at *
      cases r with
      | ok n w' =>
        cases n <;> simp only [Oper.quietUpon] at h1 <;> simp only [Oper.stillUpon]
        case value u => obtain ⟨h1, rfl⟩ := h1; exact ⟨h1, wpStill_quiet_app hn⟩
        case skip => obtain ⟨h1, rfl⟩ := h1; exact ⟨h1, wpStill_quiet_app hn⟩
        case enter f args => obtain ⟨rfl, h2⟩ := h1; exact ⟨rfl, v, h2, wpStill_quiet_app hn⟩
      | halt x w' => simp only [Oper.quietUpon] at h1
    · rename_i hw
      rw [if_neg hw] at h
      exact wpStill_quiet_app h
theorem wpStill_split {P : Program} {ops : Array Oper} {w : World} {Qs : Act → Prop} {l : List Oper} {a : Act} (n : Nat) (h : wpQuiet P ops (fun w' => w' = w) (fun a => wpStill P ops w Qs (l.drop n) a) (l.take n) a) : wpStill P ops w Qs l a := by
  rw [← List.take_append_drop n l]
  exact wpStill_quiet_app h

theorem wpStill_hide {P : Program} {ops : Array Oper} {w : World} {Qs : Act → Prop} {l : List Oper} {a : Act} (h : ∀ K : Act → Prop, (∀ a, Qs a → K a) → wpStill P ops w K l a) : wpStill P ops w Qs l a := h Qs (fun _ h => h)

set_option maxRecDepth 20000 in
set_option maxHeartbeats 12800000 in
theorem rises_go (n : Nat) (hn : 2 ≤ n ∧ n ≤ 5) (ss : List Stp) (A : Option Addr) (c : Nat) (own : St) (w : World) (hl : ss.length ≤ 9223372036854775807) (hs : StpsAt w w.heap.size A ss) :
    Calls Try.prog 3 #[.int .i64 n, .slice A ss.length c, own.val] w fun e w' => e = .returned (.bool true) ∧ Below w.heap.size w w' := by
  have HS := Lib.hid hs; clear hs
  obtain ⟨hn1, hn2⟩ := hn
  have i1 : (2 : Int) ≤ n := by omega
  have i2 : (n : Int) ≤ 5 := by omega
  go_enter Try.func3, Try.ntmps3
  go_wp2_with fail
  have C := small_any ss A c w.heap.size (w.alloc (.cells #[.int .i64 own.wall, .int .i64 own.logic, .int .i64 own.node] 24)) (by simp) hl (fun h0 => by
    obtain ⟨b, o, e, h⟩ := HS.out h0
    exact ⟨b, o, e, fun i s hi => (h i s hi).below ((Below.refl _ _).al _)⟩)
  refine C.mono ?_
  clear C
  rintro e w1 ⟨⟨r, rfl, hr⟩, hb1⟩
  have hb1' := ((Below.refl w.heap.size w).al (.cells #[.int .i64 own.wall, .int .i64 own.logic, .int .i64 own.node] 24)).tr hb1
  have hO1 := (Blk.new w 24 own.cells).ext hb1
  cases r with
  | false =>
    go_wp2_with fail
    refine (awake_any _).mono ?_
    rintro e w2 ⟨rfl, hb2⟩
    go_wp2
    go_ret
    exact ⟨rfl, hb1'.tr hb2⟩
  | true =>
    obtain ⟨hr1, hr2⟩ := hr rfl
    clear hr
    go_wp2_with fail
    refine (new_yes 1 n w1 (by simp [newB]; omega)).mono ?_
    rintro e w2 ⟨rfl, hT2, hb2⟩
    have hO2 := hO1.ext hb2
    have hoc := hO2.cell
    have hT2' : TabAt w2 w.heap.size (w1.heap.size + 1) w1.heap.size (tab0 1 n) := hT2.mono hb1'.size
    have hb2' := hb1'.tr hb2
    clear hT2 hb1 hO1 hb1' hb2
    generalize w1.heap.size = pb at *
    generalize pb + 1 = tb at *
    go_wp2_with fail
    refine (water_any _ _ _ _ own w2 hT2' (by rfl)).mono ?_
    rintro e w3 ⟨rfl, hb3⟩
    have hT3 := hT2'.ext hb3
    have hO3 := hO2.ext hb3
    have hb3' := hb2'.tr hb3
    clear hT2' hb3 hb2' hO2 hoc
    have hsz3 := hb3'.size
    have hLB := Blk.new w3 24 (waterT (tab0 1 n) own).cells
    have hoblt := hO3.lt
    go_wp2_with fail
    go_loopw [9, 10, 11, 12] (fun i _ _ _ wr => ∃ k : Nat, k ≤ ss.length ∧ i = .int .i64 k ∧ RisesRel w.heap.size n ss own tb pb w.heap.size w3.heap.size w k wr) (fun i _ _ _ _ => ss.length - (intOf i).toNat)
    case atStart => exact ⟨0, Nat.zero_le _, rfl, tab0 1 n, good0 n, hT3.ext ((Below.refl _ _).al _), hb3'.al _, hO3.alloc _, hLB⟩
    case round =>
      obtain ⟨k, hk, rfl, T, hG, hT, hbl, hO, hL⟩ := hrel
      clear hT3 hO3 hb3' hLB
      generalize w3.heap.size = lb at *
      have hsz := hbl.size
      by_cases hlt : k < ss.length
      · obtain ⟨b, o, rfl, hst⟩ := HS.out (by omega)
        have hS := (hst k ss[k] (List.getElem?_eq_getElem hlt)).below hbl
        clear hst
        generalize hs0 : ss[k] = s at hS
        have hlt' : (k : Int) < ss.length := by omega
        have b0 := hS.c0
        have b1 := hS.c1
        have b2 := hS.c2
        have b3 := hS.c3
        have b4 := hS.c4
        have b5 := hS.c5
        have b6 := hS.c6
        have b7 := hS.c7
        go_wp2_with fail
        refine (nextT_any _ _ _ T s.node wr hT).mono ?_
        rintro e w' ⟨rfl, rfl⟩
        go_wp2_with fail
        refine wp_region_ht [0, 1, 2, 3, 4, 5, 6, 7, 8, 9, 10] [11, 12] (by kernel_rfl) (by kernel_rfl) (fun _ _ d _ _ h => by cases d <;> exact h) ?_
        simp only [pick, List.filterMap_cons, List.filterMap_nil, List.getElem?_cons_zero, List.getElem?_cons_succ]
        repeat still_step
        refine wpStill_nil ?_
        go_wp2_with fail
        have hsk : sizes (ss.take (k + 1)) = sizes (ss.take k) + s.m := by rw [sizes_take ss k hlt, hs0]
        have hsl := sizes_le ss (k + 1)
        refine (take_any w.heap.size tb pb T s.node s.fr s.to s.A s.m s.c s.news s.mark s.rv _ (hT.ext (Below.refl _ _).drew) (hS.rd.more hsz) hS.o1 (fun i p hp => by have := hG.few i p hp; omega) hsz).mono ?_
        rintro e w5 ⟨r, T', rfl, hst, hT5, hb5, hK5⟩
        have hO5 := hK5 _ _ _ (by decide) (by decide) hO.drew
        have hL5 := hK5 _ _ _ (by decide) (by decide) hL.drew
        have hS5 := (hS.below (Below.refl _ _).drew).below hb5
        have hG5 := hG.step hst
        rw [← hsk] at hG5
        have hbl5 := hbl.drew.trans hb5
        have hsz5 := hbl5.size
        clear hK5 hS b0 b1 b2 b3 b4 b5 b6 b7 hT hbl hO hL hb5 hsz
        have hoc := hO5.cell
        go_wp2_with fail
        refine (water_any _ _ _ T' own w5 hT5 (by rw [hG5.self]; rfl)).mono ?_
        rintro e w6 ⟨rfl, hb6⟩
        clear hoc
        have hT6 := hT5.ext hb6
        have hO6 := hO5.ext hb6
        have hL6 := hL5.ext hb6
        have hS6 := hS5.below (hb6.mono hsz5)
        have hbl6 := hbl5.tr hb6
        have hsz6 := hbl6.size
        clear hT5 hO5 hL5 hS5 hbl5 hb6 hsz5
        have hXB := Blk.new w6 24 (waterT T' own).cells
        have hT7 := hT6.ext ((Below.refl _ _).al (.cells #[.int .i64 (waterT T' own).wall, .int .i64 (waterT T' own).logic, .int .i64 (waterT T' own).node] 24))
        go_wp2_with fail
        refine forget (M := fun W => Code.wp _ _ _ _ W) (fun W => TabAt W w.heap.size tb pb T' ∧ Below w.heap.size w W ∧ Blk W w.heap.size 24 own.cells ∧ Blk W lb 24 (waterT T own).cells ∧ Blk W w6.heap.size 24 (waterT T' own).cells ∧ StpAt W w.heap.size b (o + k * 8) s) ⟨hT7, hbl6.al _, hO6.alloc _, hL6.alloc _, hXB, hS6.below ((Below.refl _ _).alloc hsz6 _)⟩ ?_
        clear hT6 hO6 hL6 hS6 hbl6 hsz6 hXB hT7
        generalize w6.heap.size = xb
        clear w6 w5
        rintro W ⟨hT, hbl, hO, hL, hX, hS⟩
        have hxc := hX.cell
        have hlc := hL.cell
        have hoc := hO.cell
        have b0 := hS.c0
        have b3 := hS.c3
        refine wp_region_segs [([0, 1], [2]), ([3, 4, 5], [6]), ([7, 8, 9, 10, 11, 12, 13, 14, 15, 16, 17, 18, 19, 20, 21, 22, 23, 24, 25, 26, 27, 28, 29, 30, 31, 32, 33, 34, 35, 36, 37, 38, 39, 40, 41, 42, 43, 44, 45, 46, 47, 48, 49], [])] (by kernel_rfl) (by kernel_rfl) (fun _ _ d _ _ h => by cases d <;> exact h) ?_
        unfold wpSegs
        simp only [pick, List.filterMap_cons, List.filterMap_nil, List.getElem?_cons_zero, List.getElem?_cons_succ]
        repeat still_step
        refine wpStill_nil ?_
        go_wp2_with fail
        refine (less_no (a := waterT T' own) (b := waterT T own) (hst.water own) _).mono ?_
        rintro e w8 ⟨rfl, hb8⟩
        clear hxc hlc hoc b0 b3
        go_wp2_with fail
        change wpSegs _ _ _ _ _ _ _
        refine forget (M := fun W => wpSegs _ _ _ _ _ _ W) (fun W => TabAt W w.heap.size tb pb T' ∧ Below w.heap.size w W ∧ Blk W w.heap.size 24 own.cells ∧ Blk W lb 24 (waterT T own).cells ∧ Blk W xb 24 (waterT T' own).cells ∧ StpAt W w.heap.size b (o + k * 8) s) ⟨hT.ext ((Below.refl _ _).drew.tr hb8), hbl.drew.tr hb8, hO.drew.ext hb8, hL.drew.ext hb8, hX.drew.ext hb8, hS.below (((Below.refl _ _).drew.tr hb8).mono hbl.size)⟩ ?_
        clear hT hbl hO hL hX hS hb8
        rintro W2 ⟨hT, hbl, hO, hL, hX, hS⟩
        have hxc := hX.cell
        have hoc := hO.cell
        unfold wpSegs
        simp only [pick, List.filterMap_cons, List.filterMap_nil, List.getElem?_cons_zero, List.getElem?_cons_succ]
        repeat still_step
        refine wpStill_nil ?_
        go_wp2_with fail
        refine (less_no (a := own) (b := waterT T' own) (waterK_own T' own _) _).mono ?_
        rintro e w9 ⟨rfl, hb9⟩
        clear hxc hoc
        go_wp2_with fail
        change wpSegs _ _ _ _ _ _ _
        refine forget (M := fun W => wpSegs _ _ _ _ _ _ W) (fun W => TabAt W w.heap.size tb pb T' ∧ Below w.heap.size w W ∧ Blk W w.heap.size 24 own.cells ∧ Blk W lb 24 (waterT T own).cells ∧ Blk W xb 24 (waterT T' own).cells ∧ StpAt W w.heap.size b (o + k * 8) s) ⟨hT.ext hb9, hbl.tr hb9, hO.ext hb9, hL.ext hb9, hX.ext hb9, hS.below (hb9.mono hbl.size)⟩ ?_
        clear hT hbl hO hL hX hS hb9
        rintro W3 ⟨hT, hbl, hO, hL, hX, hS⟩
        have hxc := hX.cell
        have hlc := hL.cell
        have b0 := hS.c0
        have b3 := hS.c3
        unfold wpSegs
        simp only [pick, List.filterMap_cons, List.filterMap_nil, List.getElem?_cons_zero, List.getElem?_cons_succ]
        cases r with
        | false =>
          obtain ⟨_, hTT⟩ | ⟨h0, _⟩ := hst
          · subst hTT
            have hX2 := nextT_any w.heap.size tb pb T' s.node W3 hT
            generalize nextT T' s.node = N at *
            have e1 : (N != N) = false := by simp
            refine wpStill_hide fun K hK => ?_
            repeat still_step
            still_call (hX2.mono fun _ _ h => ⟨h.1, h.2.symm⟩)
            iterate 6 still_step
            refine wpStill_of_quiet ?_
            repeat (show wpQuiet _ _ _ _ (_ :: _) _; first | go_big_quiet_skip | (go_big_quiet_want; go_big_quiet_op; go_big_quiet_on))
            refine hK _ ?_
            clear hK K
            clear e1 hX2 hS b0 b3
            dsimp only [wpList, SegQ, wpSegs]
            have hlf := hL.frozen
            have hxl := hX.lt
            have hll := hL.lt
            go_wp2_with fail
            go_round
            case rel => exact ⟨k + 1, by omega, by go_num, rises_store hG5 hT hbl hO hL (by omega) (by omega) rfl⟩
            case measure => simp [intOf]; omega
          · cases h0
        | true =>
          have hN2 := hst.next
          have hX2 := nextT_any w.heap.size tb pb T' s.node W3 hT
          have hbd := nextT_bd hG s.node
          have hmm := sizes_le ss k
          have b1 := hS.c1
          have b2 := hS.c2
          have b4 := hS.c4
          have b5 := hS.c5
          have b6 := hS.c6
          have b7 := hS.c7
          generalize nextT T' s.node = N' at *
          generalize nextT T s.node = N at *
          have hN0 : 0 ≤ N := hbd.1
          have hN1 : N ≤ 1000000 := by omega
          have hm1 : (s.m : Int) ≤ 1000000 := by omega
          have e1 : (N' != N + s.m) = false := by rw [hN2]; simp
          clear hN2 hbd hmm
          refine wpStill_hide fun K hK => ?_
          refine wpStill_split 24 ?_
          simp only [List.take_succ_cons, List.take_zero, List.drop_succ_cons, List.drop_zero]
          repeat (show wpQuiet _ _ _ _ (_ :: _) _; first | go_big_quiet_skip | (go_big_quiet_want; go_big_quiet_op; go_big_quiet_on))
          show wpStill _ _ _ _ _ _
          iterate 6 still_step
          still_call (hX2.mono fun _ _ h => ⟨h.1, h.2.symm⟩)
          iterate 10 still_step
          refine wpStill_of_quiet ?_
          repeat (show wpQuiet _ _ _ _ (_ :: _) _; first | go_big_quiet_skip | (go_big_quiet_want; go_big_quiet_op; go_big_quiet_on))
          refine hK _ ?_
          clear hK K
          clear e1 hX2 hS b0 b3 b1 b2 b4 b5 b6 b7
          dsimp only [wpList, SegQ, wpSegs]
          have hlf := hL.frozen
          have hxl := hX.lt
          have hll := hL.lt
          go_wp2_with fail
          go_round
          case rel => exact ⟨k + 1, by omega, by go_num, rises_store hG5 hT hbl hO hL (by omega) (by omega) rfl⟩
          case measure => simp [intOf]; omega
      · have hk' : ¬ (k : Int) < ss.length := by omega
        go_wp2_with fail
        refine (awake_any _).mono ?_
        rintro e w4 ⟨rfl, hb4⟩
        go_wp2
        go_ret
        exact ⟨rfl, hbl.tr hb4⟩
end Go.Proofs.Ytbebofneobfngaa
