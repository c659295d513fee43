/- What comes from one node changes nothing of others: the law's walk. -/
import Derived.Test.YtbebofneobfngaaM
namespace Go.Proofs.Ytbebofneobfngaa
open Go.RowKit
attribute [local go_sem] St.cells St.val Peer.cells headC

theorem int_info : (Try.prog.info? 3).map (fun i => (i.zero, i.size, i.bytes)) = some (some (.int .i64 0), 1, 8) := by kernel_rfl

/-- What is known of each of the first k numbers. -/
def wasL (T : Tab) (k : Nat) : List Value := (List.range k).map fun j : Nat => .int .i64 (nextT T (j : Int))
theorem wasL_succ (T : Tab) (k : Nat) : wasL T (k + 1) = wasL T k ++ [.int .i64 (nextT T (k : Int))] := by
  unfold wasL; rw [List.range_succ, List.map_append]; rfl
theorem wasL_at (T : Tab) (k j : Nat) (h : j < k) : (wasL T k)[j]? = some (.int .i64 (nextT T (j : Int))) := by
  unfold wasL; rw [List.getElem?_map, List.getElem?_range h]; rfl

theorem TabAt.grown {w w' : World} {base base' tb pb n sz : Nat} {e : TypeId} {T : Tab} {v : Value} {xs : List Value} (h : TabAt w base tb pb T) (hg : w.grownBy w' v.ownBlock) (ho : w.ownsRow base' e sz v n xs) (h1 : e ≠ 52) (h2 : e ≠ 56) (h3 : e ≠ 41) : TabAt w' base tb pb T :=
  ⟨h.head.grown hg (Ne.symm (own_blk_ne ho h.head h1)), h.row.grown hg (Ne.symm (own_blk_ne ho h.row h2)), h.b1, h.b2, h.few, (fun i p hp => by
    obtain ⟨h0, xs, hx, h1⟩ := h.evs i p hp
    refine ⟨h0, xs, ⟨hx.1, ?_⟩, h1⟩
    rcases hx.2 with hn | ⟨g, cap, cur, hv, hbg, hh, rest⟩
    · exact .inl hn
    · have hB : Blk w g 41 cur.toList := by unfold Blk; simpa using hh
      have := hB.grown hg (Ne.symm (own_blk_ne ho hB h3))
      exact .inr ⟨g, cap, cur, hv, hbg, by unfold Blk at this; simpa using this, rest⟩), h.apart⟩

theorem own_keep3 {w w' : World} {base n : Nat} {v : Value} {xs : List Value} (h : w.ownsRow base 3 1 v n xs) (hk : Keeps w w') : w'.ownsRow base 3 1 v n xs := by
  refine ⟨h.1, ?_⟩
  rcases h.2 with hn | ⟨g, cap, cur, hv, hbg, hg, rest⟩
  · exact .inl hn
  · refine .inr ⟨g, cap, cur, hv, hbg, ?_, rest⟩
    have := hk g 3 cur.toList (by decide) (by decide) (by unfold Blk; simpa using hg)
    unfold Blk at this; simpa using this

theorem nextT_q' {w : World} {base tb pb q : Nat} {T : Tab} {node : Int} {v : Int} (h : TabAt w base tb pb T) (hv : nextT T node = v) :
    Calls Try.prog 11 #[.pointer (some ⟨tb, 0, none⟩), .int .i64 node] (w.drewN q) fun e w'' => e = .returned (.int .i64 v) ∧ ∃ m, w'' = w.drewN m := by
  subst hv
  exact quiet_eq (nextT_any base tb pb T node _ (h.ext (below_drewN (Below.refl _ _) _)))

theorem TabAt.drewN {w : World} {base tb pb : Nat} {T : Tab} (h : TabAt w base tb pb T) (q : Nat) : TabAt (w.drewN q) base tb pb T := h.ext (below_drewN (Below.refl _ _) _)

/-- Of oneself and of no node nothing is known. -/
theorem next_off {n tot : Nat} {T : Tab} (h : Good n tot T) {k : Int} (hk : k < 2 ∨ (n : Int) < k) : nextT T k = 0 := by
  unfold nextT
  rw [if_neg]
  rw [h.self, h.len]
  simp [otherB]
  omega

theorem StepT.node {n tot m : Nat} {T T' : Tab} {node fr to : Int} {mark : St} (h : StepT T node fr to m mark true T') (hg : Good n tot T) : 2 ≤ node ∧ node ≤ n := by
  rcases h with ⟨h, _⟩ | ⟨_, j, p, ev', rfl, hp, ho, _, rfl⟩
  · cases h
  · unfold othB at ho
    rw [hg.self, hg.len] at ho
    simp [otherB] at ho
    omega

theorem cnt_all {n tot : Nat} {T : Tab} (h : Good n tot T) (hn : 2 ≤ n ∧ n ≤ 5) : othCnt T T.ps.length = n - 1 := by
  have e : ∀ k, othB T k = otherB 1 (n + 1 : Nat) k := fun k => by unfold othB; rw [h.self, h.len]
  rw [h.len]
  have : n = 2 ∨ n = 3 ∨ n = 4 ∨ n = 5 := by omega
  rcases this with rfl | rfl | rfl | rfl <;> simp only [othCnt, e] <;> decide

/-- Behind some steps. -/
def PeersRel (B n : Nat) (ss : List Stp) (tb pb : Nat) (w0 : World) (k : Nat) (w : World) : Prop :=
  ∃ T, Good n (sizes (ss.take k)) T ∧ TabAt w B tb pb T ∧ Below B w0 w

set_option maxRecDepth 20000 in
set_option maxHeartbeats 12800000 in
theorem peers_go (n : Nat) (hn : 2 ≤ n ∧ n ≤ 5) (ss : List Stp) (A : Option Addr) (c : Nat) (w : World) (hl : ss.length ≤ 9223372036854775807) (hs : StpsAt w w.heap.size A ss) :
    Calls Try.prog 6 #[.int .i64 n, .slice A ss.length c] w fun e w' => e = .returned (.bool true) ∧ Below w.heap.size w w' := by
  obtain ⟨i0, hi0, hz0, hz1, hz2⟩ := info_parts int_info
  have HS := Lib.hid hs; clear hs
  obtain ⟨hn1, hn2⟩ := hn
  have i1 : (2 : Int) ≤ n := by omega
  have i2 : (n : Int) ≤ 5 := by omega
  go_enter Try.func6, Try.ntmps6
  go_wp2_with fail
  have C := small_any ss A c w.heap.size w (Nat.le_refl _) hl HS.out
  refine C.mono ?_
  clear C
  rintro e w1 ⟨⟨r, rfl, hr⟩, hb1⟩
  cases r with
  | false =>
    go_wp2_with fail
    refine (awake_any _).mono ?_
    rintro e w2 ⟨rfl, hb2⟩
    go_wp2
    go_ret
    exact ⟨rfl, hb1.tr hb2⟩
  | true =>
    obtain ⟨hr1, hr2⟩ := hr rfl
    clear hr
    go_wp2_with fail
    refine (new_yes 1 n w1 (by simp [newB]; omega)).mono ?_
    rintro e w2 ⟨rfl, hT2, hb2⟩
    have hT2' : TabAt w2 w.heap.size (w1.heap.size + 1) w1.heap.size (tab0 1 n) := hT2.mono hb1.size
    have hb2' := hb1.tr hb2
    clear hT2 hb1 hb2
    generalize w1.heap.size = pb at *
    generalize pb + 1 = tb at *
    go_wp2_with fail
    go_loopw [6, 7, 8, 9, 10] (fun i _ _ _ _ wr => ∃ k : Nat, k ≤ ss.length ∧ i = .int .i64 k ∧ PeersRel w.heap.size n ss tb pb w k wr) (fun i _ _ _ _ _ => ss.length - (intOf i).toNat)
    case atStart => exact ⟨0, Nat.zero_le _, rfl, tab0 1 n, good0 n, hT2', hb2'⟩
    case round =>
      obtain ⟨k, hk, rfl, T, hG, hT, hbl⟩ := hrel
      clear hT2' hb2'
      have hsz := hbl.size
      by_cases hlt : k < ss.length
      · obtain ⟨b, o, rfl, hst⟩ := HS.out (by omega)
        have hlt' : (k : Int) < ss.length := by omega
        go_wp2_with fail
        obtain ⟨wo, hwo⟩ : ∃ wo : World, wo = wr := ⟨_, rfl⟩
        rw [← hwo]
        go_loopw [7, 8] (fun v i wr => ∃ j : Nat, j ≤ n + 2 ∧ i = .int .i64 j ∧ wr.ownsRow w.heap.size 3 1 v j (wasL T j) ∧ TabAt wr w.heap.size tb pb T ∧ Below w.heap.size w wr) (fun _ i _ => n + 2 - (intOf i).toNat)
        case atStart => exact ⟨0, Nat.zero_le _, rfl, World.ownsRow_nil wo _ _ _, hwo ▸ hT, hwo ▸ hbl⟩
        case round =>
          clear hT hbl hsz hwo
          obtain ⟨j, hj, rfl, hown, hT, hbl⟩ := hrel
          have hsz := hbl.size
          by_cases hjn : j < n + 2
          · have hjn' : (j : Int) ≤ n + 1 := by omega
            go_wp2_with fail
            refine (nextT_any _ _ _ T j wr hT).mono ?_
            rintro e w' ⟨rfl, rfl⟩
            go_wp2_with (at_builtin; refine wpList_append_own _ rfl (.tmp 39) (.tmp 43) _ rfl w.heap.size 3 i0 _ 1 8 Try.underlying46 hi0 hz0 hz1 hz2 rfl (by omega) _ _ (wasL T j) rfl (hown.alloc _) ⟨wr.heap.size, 0, none⟩ 1 1 [.int .i64 (nextT T (j : Int))] rfl rfl (World.news_of_block (heap_alloc_new wr _)) (by simp [Value.oneCell']) (by simp only [maxLen]; omega) (by omega) (by simp; omega) ?_; intro v1 w2 hown2 hg2 _)
            go_round
            case rel =>
              refine ⟨j + 1, by omega, by go_num, by rw [wasL_succ]; exact hown2, ?_, ?_⟩
              · exact (hT.ext ((Below.refl _ _).al _)).grown hg2 (hown.alloc _) (by decide) (by decide) (by decide)
              · exact (hbl.al _).grown hg2 (by simp; omega) (fun g hg => (hown.lt g hg).1)
            case measure => simp [intOf]; omega
          · obtain rfl : j = n + 2 := by omega
            have hjn' : ¬ ((n + 2 : Nat) : Int) ≤ n + 1 := by omega
            obtain ⟨A1, c1, rfl⟩ := own_form hown
            have hS := (hst k ss[k] (List.getElem?_eq_getElem hlt)).below hbl
            clear hst
            generalize hs0 : ss[k] = s at hS
            have b0 := hS.c0
            have b1 := hS.c1
            have b2 := hS.c2
            have b3 := hS.c3
            have b4 := hS.c4
            have b5 := hS.c5
            have b6 := hS.c6
            have b7 := hS.c7
            go_wp2_with fail
            refine wp_region_ht [0, 1, 2, 3, 4, 5, 6, 7, 8, 9, 10] [11, 12] (by kernel_rfl) (by kernel_rfl) (fun _ _ d _ _ h => by cases d <;> exact h) ?_
            simp only [pick, List.filterMap_cons, List.filterMap_nil, List.getElem?_cons_zero, List.getElem?_cons_succ]
            repeat still_step
            refine wpStill_nil ?_
            go_wp2_with fail
            have hsk : sizes (ss.take (k + 1)) = sizes (ss.take k) + s.m := by rw [sizes_take ss k hlt, hs0]
            have hsl := sizes_le ss (k + 1)
            refine (take_any w.heap.size tb pb T s.node s.fr s.to s.A s.m s.c s.news s.mark s.rv _ (hT.ext (Below.refl _ _).drew) (hS.rd.more hsz) hS.o1 (fun i p hp => by have := hG.few i p hp; omega) hsz).mono ?_
            rintro e w5 ⟨r, T', rfl, hst, hT5, hb5, hK5⟩
            have hS5 := (hS.below (Below.refl _ _).drew).below hb5
            have hG5 := hG.step hst
            rw [← hsk] at hG5
            have hbl5 := hbl.drew.trans hb5
            have hsz5 := hbl5.size
            have hown5 := own_keep3 (World.ownsRow.ext_ hown (Below.refl _ _).drew) hK5
            clear hK5 hS b0 b1 b2 b3 b4 b5 b6 b7 hT hbl hown hb5 hsz
            go_wp2_with fail
            obtain ⟨wo, hwo⟩ : ∃ wo : World, wo = w5 := ⟨_, rfl⟩
            rw [← hwo]
            go_loopw [10] (fun i wr => ∃ j : Nat, j ≤ n + 2 ∧ i = .int .i64 j ∧ wr.ownsRow w.heap.size 3 1 (.slice A1 (n + 2) c1) (n + 2) (wasL T (n + 2)) ∧ TabAt wr w.heap.size tb pb T' ∧ Below w.heap.size w wr ∧ StpAt wr w.heap.size b (o + k * 8) s) (fun i _ => n + 2 - (intOf i).toNat)
            case atStart => exact ⟨0, Nat.zero_le _, rfl, hwo ▸ hown5, hwo ▸ hT5, hwo ▸ hbl5, hwo ▸ hS5⟩
            case round =>
              clear hown5 hT5 hbl5 hS5 hsz5 hwo
              obtain ⟨j, hj, rfl, hown, hT, hbl, hS⟩ := hrel
              have hsz := hbl.size
              by_cases hjn : j < n + 2
              · have hjn2 : (j : Int) ≤ n + 1 := by omega
                obtain ⟨wb, wof, rfl, hwb, hwc⟩ := (Reads.of_own hown).flat (by omega) (by omega)
                have hwj := hwc j _ (wasL_at T (n + 2) j hjn)
                clear hwc
                have b0 := hS.c0
                obtain ⟨N, hN⟩ : ∃ N, nextT T' (j : Int) = N := ⟨_, rfl⟩
                obtain ⟨M, hM⟩ : ∃ M, nextT T (j : Int) = M := ⟨_, rfl⟩
                have hX := fun q => nextT_q' (q := q) hT hN
                rw [hM] at hwj
                by_cases hoff : (j : Int) < 2 ∨ (n : Int) < j
                · have hN0 : N = 0 := hN ▸ next_off hG5 hoff
                  have hM0 : M = 0 := hM ▸ next_off hG hoff
                  subst hN0 hM0
                  clear hN hM
                  by_cases h2 : (j : Int) < 2
                  · go_wp2_with fail
                    go_quiet ((go_at_call 11; exact hX _))
                    go_wp2_with fail
                    go_round
                    case rel => exact ⟨j + 1, by omega, by go_num, hown.ext_ (below_drewN (Below.refl _ _) _), hT.drewN _, below_drewN hbl _, hS.below (below_drewN (Below.refl _ _) _)⟩
                    case measure => simp [intOf]; omega
                  · have h3 : (n : Int) < j := by omega
                    have h2' : decide ((j : Int) < 2) = false := by simp; omega
                    go_wp2_with fail
                    go_quiet ((go_at_call 11; exact hX _))
                    go_wp2_with fail
                    go_round
                    case rel => exact ⟨j + 1, by omega, by go_num, hown.ext_ (below_drewN (Below.refl _ _) _), hT.drewN _, below_drewN hbl _, hS.below (below_drewN (Below.refl _ _) _)⟩
                    case measure => simp [intOf]; omega
                · have h2 : decide ((j : Int) < 2) = false := by simp; omega
                  have h3 : decide (n < j) = false := by simp; omega
                  by_cases he : N = M
                  · subst he
                    clear hN hM
                    have e1 : (N != N) = false := by simp
                    go_wp2_with fail
                    go_quiet ((go_at_call 11; exact hX _))
                    go_wp2_with fail
                    go_round
                    case rel => exact ⟨j + 1, by omega, by go_num, hown.ext_ (below_drewN (Below.refl _ _) _), hT.drewN _, below_drewN hbl _, hS.below (below_drewN (Below.refl _ _) _)⟩
                    case measure => simp [intOf]; omega
                  · have hj2 : (j : Int) = s.node := Decidable.byContradiction fun hne => he (by rw [← hN, ← hM]; exact hst.others hne)
                    cases r with
                    | false =>
                      exfalso
                      obtain ⟨_, hTT⟩ | ⟨h0, _⟩ := hst
                      · subst hTT; exact he (hN.symm.trans hM)
                      · cases h0
                    | true =>
                      rw [← hj2] at b0
                      have e1 : (N != M) = true := by simp [he]
                      have e2 : ((j : Int) != j) = false := by simp
                      clear hN hM he hj2
                      go_wp2_with fail
                      go_quiet ((go_at_call 11; exact hX _))
                      go_wp2_with fail
                      go_round
                      case rel => exact ⟨j + 1, by omega, by go_num, hown.ext_ (below_drewN (Below.refl _ _) _), hT.drewN _, below_drewN hbl _, hS.below (below_drewN (Below.refl _ _) _)⟩
                      case measure => simp [intOf]; omega
              · have hjn2 : ¬ (j : Int) ≤ n + 1 := by omega
                have b0 := hS.c0
                cases r with
                | false =>
                  go_wp2_with fail
                  go_round
                  case rel => exact ⟨k + 1, by omega, by go_num, T', hG5, hT, hbl⟩
                  case measure => simp [intOf]; omega
                | true =>
                  obtain ⟨hn3, hn4⟩ := hst.node hG
                  have hn5 : decide (s.node < 2) = false := by simp; omega
                  have hn6 : decide ((n : Int) < s.node) = false := by simp; omega
                  go_wp2_with fail
                  go_round
                  case rel => exact ⟨k + 1, by omega, by go_num, T', hG5, hT, hbl⟩
                  case measure => simp [intOf]; omega
      · have hk' : ¬ (k : Int) < ss.length := by omega
        have hcn := cnt_all hG ⟨hn1, hn2⟩
        go_wp2_with fail
        have C := logs_any w.heap.size tb pb T wr hT
        rw [hcn] at C
        refine C.mono ?_
        clear C hcn
        rintro e w3 ⟨⟨A3, c3, rfl⟩, hb3⟩
        have e3 : (((n - 1 : Nat) : Int) == (n : Int) - 1) = true := by simp; omega
        go_wp2_with fail
        refine (awake_any _).mono ?_
        rintro e w4 ⟨rfl, hb4⟩
        go_wp2
        go_ret
        exact ⟨rfl, (hbl.tr hb3).tr hb4⟩

set_option maxHeartbeats 1600000 in
theorem peers_off (a0 : Int) (hn : a0 < 2 ∨ 5 < a0) (ss : List Stp) (A : Option Addr) (c : Nat) (w : World) (hl : ss.length ≤ 9223372036854775807) (hs : StpsAt w w.heap.size A ss) :
    Calls Try.prog 6 #[.int .i64 a0, .slice A ss.length c] w fun e w' => e = .returned (.bool true) ∧ Below w.heap.size w w' := by
  have HS := Lib.hid hs; clear hs
  have go : ∀ (h2 : a0 < 2 ∨ 5 < a0 ∧ ¬ a0 < 2), Calls Try.prog 6 #[.int .i64 a0, .slice A ss.length c] w fun e w' => e = .returned (.bool true) ∧ Below w.heap.size w w' := by
    intro h2
    rcases h2 with h2 | ⟨h2, h3⟩ <;>
    · go_enter Try.func6, Try.ntmps6
      go_wp2_with fail
      have C := small_any ss A c w.heap.size w (Nat.le_refl _) hl HS.out
      refine C.mono ?_
      clear C
      rintro e w1 ⟨⟨r, rfl, hr⟩, hb1⟩
      clear hr
      cases r <;>
      · go_wp2_with fail
        refine (awake_any _).mono ?_
        rintro e w2 ⟨rfl, hb2⟩
        go_wp2
        go_ret
        exact ⟨rfl, hb1.tr hb2⟩
  exact go (by omega)

theorem peers_any (a0 : Int) (ss : List Stp) (A : Option Addr) (c : Nat) (w : World) (hl : ss.length ≤ 9223372036854775807) (hs : StpsAt w w.heap.size A ss) :
    Calls Try.prog 6 #[.int .i64 a0, .slice A ss.length c] w fun e w' => e = .returned (.bool true) ∧ Below w.heap.size w w' := by
  by_cases hn : a0 < 2 ∨ 5 < a0
  · exact peers_off a0 hn ss A c w hl hs
  · obtain ⟨n, rfl⟩ := Int.eq_ofNat_of_zero_le (show 0 ≤ a0 by omega)
    exact peers_go n (by omega) ss A c w hl hs
end Go.Proofs.Ytbebofneobfngaa
