/- state.Locked. slices.Index and Contains at ranges; slices.Clip at records. state.freeze. state.Apply for a freeze; state.span, newer. state.newer. -/
import Derived.Test.YtcmjgghkmdbphaaGreatDoorS21
import Derived.Test.YtcmjgghkmdbphaaGreatDoorS20
import Derived.Test.YtcmjgghkmdbphaaGreatDoorS15
set_option maxRecDepth 20000
set_option maxHeartbeats 25600000
namespace Go.Proofs.YtcmjgghkmdbphaaGreatDoor
open Go.RowKit
theorem lockedAt_any (r : Range) (b : Nat) (x : Put) (A : Option Addr) (c : Nat) (w : World) (hb : Blk w b 27 [.int .i64 r.first, .int .i64 r.last, .int .i64 r.owner, .int .i64 r.epoch]) (hs : sfit x.stream) :
 Calls Tryz.prog 121 #[.agg #[.string x.stream, .int .i64 x.expect, .slice A x.data.length c], .pointer (some ⟨b, 0, none⟩)] w fun e w' => e = .returned (.bool (r.has (hashS x.stream))) ∧ Below w.heap.size w w' := by
 have hb0 := (jb w.heap.size w).al (.cells #[.string x.stream, .int .i64 x.expect, .slice A x.data.length c] 69)
 have B0 := Blk.new w 69 [.string x.stream, .int .i64 x.expect, .slice A x.data.length c]
 have C1 := fun W => hashI_any x.stream W hs
 have C2 := fun W => has_any r (hashS x.stream) W
 unfold Range.val at C2
 have BR := hb.ext hb0
 clear hs hb
 go_enter Tryz.func121, Tryz.ntmps121
 go_upto_region 1 with fail
 generalize hw1 : (w.alloc (.cells #[.string x.stream, .int .i64 x.expect, .slice A x.data.length c] 69)) = w1 at *
 clear hw1
 have z0 := On.cell (BR.cell 0 : w1.cell? ⟨b, 0, none⟩ = some (.int .i64 r.first))
 have z1 := On.cell (BR.cell 1 : w1.cell? ⟨b, 1, none⟩ = some (.int .i64 r.last))
 have z2 := On.cell (BR.cell 2 : w1.cell? ⟨b, 2, none⟩ = some (.int .i64 r.owner))
 have z3 := On.cell (BR.cell 3 : w1.cell? ⟨b, 3, none⟩ = some (.int .i64 r.epoch))
 have y0 := On.cell (B0.cell 0 : w1.cell? ⟨w.heap.size, 0, none⟩ = some (.string x.stream))
 have hlo := jb w1.heap.size w1
 have HB0 := jh hb0
 clear BR B0 hb0
 refine wp_region_mix (.seg [0, 1, 2] 3 (.seg [] 4 (.leaf [5]))) (fun w' => ∃ d : Wd (On w1), w' = d.w) (by kernel_rfl) (by kernel_rfl) (fun _ _ d _ _ h => by cases d <;> exact h) (ClsW.mk hlo.drew) ?_
 unfold wpMix; simp only [pick, j1, j2, j3, j4]
 (repeat (show wpQuiet _ _ _ _ (_ :: _) _; go_big_quiet_step (fail))); refine qn ?_
 go_wp2_with fail
 refine (C1 _).mono ?_
 rintro e w' ⟨rfl, rfl⟩
 go_wp2_with fail
 (refine segw (D := On w1) (hlo.drew) ?_; unfold wpMix; simp only [pick, j1, j2, j3, j4]; (repeat (show wpQuiet _ _ _ _ (_ :: _) _; go_big_quiet_step (fail))); refine qn ?_)
 go_wp2_with fail
 refine (C2 _).mono ?_
 rintro e w3 ⟨rfl, hb3'⟩
 have hb3 : Below w1.heap.size w1 w3 := hlo.drew.tr hb3'
 have HB3 := jh (HB0.out.tr hb3)
 clear hb3'
 go_wp2_with fail
 (refine segw (D := On w1) (hb3) ?_; unfold wpMix; simp only [pick, j1, j2, j3, j4]; (repeat (show wpQuiet _ _ _ _ (_ :: _) _; go_big_quiet_step (fail))); refine qn ?_)
 clear z0 z1 z2 z3 y0 hlo hb3
 go_wp2_with fail
 go_ret
 exact ⟨rfl, HB3.out⟩
theorem enters_locked : ∀ args w, (callFunc 121 args).run Tryz.prog w = .ok (.enter 121 args) w := enters_of Tryz.func121 (by kernel_rfl) rfl
theorem locked_any (g : Nat) (s : St) (r : Range) (P : Nat → Prop) (w : World) (h : StAt w P g s) (hs : s.self ≠ 0) (hp : HeldFair s) :
 Calls Tryz.prog 24 #[ptrV g, .agg #[.int .i64 r.first, .int .i64 r.last, .int .i64 r.owner, .int .i64 r.epoch]] w fun e w' => e = .returned (.bool (lockedS s r)) ∧ Below w.heap.size w w' := by
 obtain ⟨v, hB, hI⟩ := h
 have hb0 := (jb w.heap.size w).al (.cells #[.int .i64 r.first, .int .i64 r.last, .int .i64 r.owner, .int .i64 r.epoch] 27)
 have BN := Blk.new w 27 [.int .i64 r.first, .int .i64 r.last, .int .i64 r.owner, .int .i64 r.epoch]
 have HI := jh (ja hI hB)
 have HHP := jh hp
 have hgl := hB.lt
 have HBS := jh (show lockedS s r = (s.held.any fun x => x.2.batch.puts.any fun p => r.has (hashS p.stream)) from rfl)
 clear hI hB hp
 unfold ptrV
 go_enter Tryz.func24, Tryz.ntmps24
 go_upto_region 1 with fail
 generalize hwr : (w.alloc (.cells #[.int .i64 r.first, .int .i64 r.last, .int .i64 r.owner, .int .i64 r.epoch] 27)) = wr at *
 clear hwr
 have C1 := gone_any g s.self wr ((HI.out.2.ext hb0).cell 0) hs
 unfold ptrV at C1
 have b6 : wr.cell? ⟨g, 6, none⟩ = some v.held := (HI.out.2.ext hb0).cell 6
 have BNr := jh BN
 have hlo := hb0
 clear BN hb0 hs
 go_wp2_with fail
 refine C1.mono ?_
 clear C1
 rintro e w' ⟨rfl, rfl⟩
 obtain ⟨hnd, hh⟩ := HI.out.1.held
 have HLO := jh hlo
 clear hnd hlo
 rcases hh with ⟨hv, hnil⟩ | ⟨m, LA, hv, hPm, hMA, hrep, hl⟩
 ·rw [hv] at b6
  go_wp2_with (first
   | (at_range; refine wpList_range_nil rfl (.tmp 12) _ rfl Tryz.underlying172 rfl ?_; intro w2 hit hb2 hz2)
   | fail)
  go_frame
  go_loopw [14] (fun _ wq => wq = w2) (fun _ _ => 0)
  case atStart => rfl
  case round =>
   obtain rfl := hrel
   go_wp2_with (first
    | (at_next; refine wpList_next_nil rfl (.tmp 13) rfl rfl hit ?_)
    | fail)
   go_ret
   exact ⟨ret_bool (by rw [HBS.out, hnil]; rfl), HLO.out.tr hb2⟩
 ·rw [hv] at b6
  have hMA' := hMA.ext HLO.out
  have HRP := jh (show ∀ p ∈ LA, HeldR.rep wr (fun g => P g ∧ g < wr.heap.size) p.2.2 p.2.1 from fun p hp => HeldR.mono (held_same hrep HLO.out p hp) (fun g h1 h2 => ⟨h1, h2⟩))
  have HLL := jh (show (s.held.any fun x => x.2.batch.puts.any fun p => r.has (hashS p.stream)) = LA.any fun p => p.2.1.batch.puts.any fun x => r.has (hashS x.stream) from by rw [hl, List.any_map]; rfl)
  clear hrep hl hMA hv hPm
  go_wp2_with (first
   | (at_range; refine wpList_range_map rfl (.tmp 12) _ rfl Tryz.underlying172 rfl hMA' ?_; intro w2 hit hb2 hz2)
   | fail)
  try go_frame
  clear b6 hMA'
  generalize hwo : wr = wo at *
  clear hwo
  have hzo : wo.heap.size = wo.heap.size := rfl
  go_loopw [14] (fun _ wq => ∃ left : List (Tx × (Held × List Value)), IterAt txE wq wo.heap.size m (left.map fun p => (p.1, aggV p.2.2)) ∧ (∀ p ∈ left, p ∈ LA) ∧ (LA.any fun p => p.2.1.batch.puts.any fun x => r.has (hashS x.stream)) = (left.any fun p => p.2.1.batch.puts.any fun x => r.has (hashS x.stream)) ∧ Below wo.heap.size wo wq) (fun _ wq => leftLen wq wo.heap.size m)
  case atStart => exact ⟨LA, hit, fun _ h => h, rfl, hb2⟩
  case round =>
   obtain ⟨left, hiq, hsub, hany, hbq⟩ := hrel
   have HANY := jh hany
   have HSUB := jh hsub
   have held_rep_at : ∀ {p : Tx × (Held × List Value)}, p ∈ left → HeldR.rep wr (fun g => P g ∧ g < wo.heap.size) p.2.2 p.2.1 := fun {p} hp => HeldR.same (HRP.out p (hsub p hp)) (Same.of_belowB hbq fun g hg => hg.2)
   clear hany hsub hit
   go_wp2_with (first
    | (at_next; refine wpList_next_held rfl (.tmp 13) rfl rfl hiq (fun p hp => held_rep_at hp) (fun h0 => ?_) (fun i t h pA fA pc fc w3 hp hrow hit3 hO3 hz3 hen => ?_))
    | fail)
   ·go_ret
    exact ⟨ret_bool (by rw [HBS.out, HLL.out, HANY.out, h0]; rfl), HLO.out.tr hbq⟩
   ·have hb3 : Below wo.heap.size wo w3 := hbq.trans (hO3.low (fun g hg => by rw [hg]; omega) hbq.size)
    have hb4 := hb3.al (.cells #[.int .i64 h.tx.node, .int .i64 h.tx.life, .int .i64 h.tx.num, .string h.batch.key, .slice pA h.batch.puts.length pc, .int .i64 h.stamp.wall, .int .i64 h.stamp.logic, .int .i64 h.stamp.node, .slice fA h.firsts.length fc] 192)
    have hrow4 := (hrow.2.2.same (Same.of_only hO3 fun g hg e => by have e' : g = wo.heap.size := e; have := hg.2; omega) (by omega)).ext ((jb w3.heap.size w3).al (.cells #[.int .i64 h.tx.node, .int .i64 h.tx.life, .int .i64 h.tx.num, .string h.batch.key, .slice pA h.batch.puts.length pc, .int .i64 h.stamp.wall, .int .i64 h.stamp.logic, .int .i64 h.stamp.node, .slice fA h.firsts.length fc] 192))
    have BN4 := BNr.out.ext hb4
    have hit4 := hit3.ext ((jb w3.heap.size w3).al (.cells #[.int .i64 h.tx.node, .int .i64 h.tx.life, .int .i64 h.tx.num, .string h.batch.key, .slice pA h.batch.puts.length pc, .int .i64 h.stamp.wall, .int .i64 h.stamp.logic, .int .i64 h.stamp.node, .slice fA h.firsts.length fc] 192))
    have hlen4 : (left.eraseIdx i).length < left.length := by
     have := (List.getElem?_eq_some_iff.1 hp).1
     rw [List.length_eraseIdx, if_pos this]; omega
    have hleft := hiq.len
    have C := hasF_Put 121 [.pointer (some ⟨w.heap.size, 0, none⟩)] (fun x => r.has (hashS x.stream)) enters_locked pA pc h.batch.puts _ (w3.alloc (.cells #[.int .i64 h.tx.node, .int .i64 h.tx.life, .int .i64 h.tx.num, .string h.batch.key, .slice pA h.batch.puts.length pc, .int .i64 h.stamp.wall, .int .i64 h.stamp.logic, .int .i64 h.stamp.node, .slice fA h.firsts.length fc] 192)) hrow4 (by have := hrow.1; have := hrow.2.1; omega) (fun a cs W ha hra hb => by
     obtain ⟨Ax, cx, rfl, hsf, _⟩ := put_rep.1 hra
     exact lockedAt_any r w.heap.size a Ax cx W (BN4.ext hb) hsf)
    have H4 := jh (ja hb4 (ja hit4 (ja hlen4 hleft)))
    have HP := jh hp
    clear hb3 hb4 hrow4 BN4 hit4 hlen4 hleft hen hit3 hO3 hz3 hrow hp hiq held_rep_at
    refine C.mono ?_
    clear C
    cases hq : h.batch.puts.any fun x => r.has (hashS x.stream)
    ·have HQ := jh hq; clear hq
     rintro e w5 ⟨rfl, hb5⟩
     have hb5' := H4.out.1.tr hb5
     have hit5 := H4.out.2.1.ext hb5
     go_wp2_with fail
     go_round
     case rel => exact ⟨left.eraseIdx i, hit5, fun p hp => HSUB.out p (List.mem_of_mem_eraseIdx hp), any_erase HANY.out HP.out HQ.out, hb5'⟩
     case measure =>
      have h1 := hit5.len
      have h2 := H4.out.2.2.1
      have h3 := H4.out.2.2.2
      simp only [List.length_map] at h1 h3
      omega
    ·have HQ := jh hq; clear hq
     rintro e w5 ⟨rfl, hb5⟩
     have hb5' := H4.out.1.tr hb5
     go_wp2_with fail
     go_ret
     refine ⟨ret_bool ?_, HLO.out.tr hb5'⟩
     rw [HBS.out, HLL.out, eq_comm, List.any_eq_true]
     exact ⟨_, HSUB.out _ (List.mem_of_getElem? HP.out), HQ.out⟩
end Go.Proofs.YtcmjgghkmdbphaaGreatDoor
namespace Go.Proofs.YtcmjgghkmdbphaaGreatDoor
open Go.RowKit
theorem indexR_any (A : Option Addr) (c : Nat) (l : List Range) (x : Range) (P : Nat → Prop) (w : World) (hr : RangeR.Row w P A l) (hl : l.length ≤ 1000000) :
 Calls Tryz.prog 265 #[.slice A l.length c, .agg #[.int .i64 x.first, .int .i64 x.last, .int .i64 x.owner, .int .i64 x.epoch]] w fun e w' => e = .returned (.int .i64 (idxI (fun y => decide (x = y)) l)) ∧ Below w.heap.size w w' := by
 have HR := jh (hr.mono (Q := fun g => g < w.heap.size) fun g _ h => h)
 have hb0 := (jb w.heap.size w).al (.cells #[.int .i64 x.first, .int .i64 x.last, .int .i64 x.owner, .int .i64 x.epoch] 27)
 have B0 := Blk.new w 27 [.int .i64 x.first, .int .i64 x.last, .int .i64 x.owner, .int .i64 x.epoch]
 clear hr
 go_enter Tryz.func265, Tryz.ntmps265
 go_upto_region 1 with fail
 generalize hw1 : (w.alloc (.cells #[.int .i64 x.first, .int .i64 x.last, .int .i64 x.owner, .int .i64 x.epoch] 27)) = w1 at *
 clear hw1
 have HB := jh (ja hb0 B0)
 clear hb0 B0
 go_wp2_with fail
 go_loopw [8] (fun i wr => ∃ k : Nat, k ≤ l.length ∧ i = .int .i64 k ∧ (∀ (j : Nat) (y : Range), j < k → l[j]? = some y → decide (x = y) = false) ∧ Below w1.heap.size w1 wr) (fun i _ => l.length - (intOf i).toNat)
 case atStart => exact ⟨0, Nat.zero_le _, rfl, fun j y hj => absurd hj (by omega), jb _ _⟩
 case round =>
  obtain ⟨k, hk, rfl, hno, hbl⟩ := hrel
  have HN := jh (ja hno hbl)
  by_cases hlt : k < l.length
  ·have hlk := jg hlt
   obtain ⟨bb, o, cs, rfl, hP, hbw, hrep, hcs⟩ := (HR.out.ext (HB.out.1.tr hbl)).at_ hlk
   generalize l[k] = y at *
   obtain ⟨rfl, _⟩ := range_rep.1 hrep
   have HLK := jh hlk
   have c0 := hcs 0 _ rfl; have c1 := hcs 1 _ rfl; have c2 := hcs 2 _ rfl; have c3 := hcs 3 _ rfl; simp only [RangeR_size, Nat.add_zero] at c0 c1 c2 c3
   have BX := HB.out.2.ext hbl
   have z0 : wr.cell? ⟨w.heap.size, 0, none⟩ = some (.int .i64 x.first) := BX.cell 0
   have z1 : wr.cell? ⟨w.heap.size, 1, none⟩ = some (.int .i64 x.last) := BX.cell 1
   have z2 : wr.cell? ⟨w.heap.size, 2, none⟩ = some (.int .i64 x.owner) := BX.cell 2
   have z3 : wr.cell? ⟨w.heap.size, 3, none⟩ = some (.int .i64 x.epoch) := BX.cell 3
   have hlt' : (k : Int) < l.length := by omega
   clear hlk hrep hcs hno hbl BX
   have hcase : (x.first ≠ y.first) ∨ (y.first = x.first ∧ x.last ≠ y.last) ∨ (y.first = x.first ∧ y.last = x.last ∧ x.owner ≠ y.owner) ∨ (y.first = x.first ∧ y.last = x.last ∧ y.owner = x.owner ∧ x.epoch ≠ y.epoch) ∨ (y.first = x.first ∧ y.last = x.last ∧ y.owner = x.owner ∧ y.epoch = x.epoch) := by omega
   rcases hcase with gg | gg | gg | gg | gg
   ·have hxy : decide (x = y) = false := jd (fun e => by subst e; simp at gg)
    have HXY := jh hxy
    (have g3 : (x.first == y.first) = false := by rw [beq_eq_false_iff_ne] ; exact gg)
    clear gg hxy
    go_wp2_with fail
    go_quiet (fail)
    go_wp2_with fail
    go_round
    case rel =>
     refine ⟨k + 1, by omega, by go_num, fun j z hj hz => ?_, HN.out.2.drewN _⟩
     by_cases hjk : j < k
     ·exact HN.out.1 j z hjk hz
     ·have : j = k := by omega
      subst this
      rw [HLK.out] at hz
      injection hz with hz
      subst hz
      exact HXY.out
    case measure => simp [intOf]; omega
   ·have hxy : decide (x = y) = false := jd (fun e => by subst e; simp at gg)
    have HXY := jh hxy
    (rw [gg.1] at c0) ; (have g3 : (x.last == y.last) = false := by rw [beq_eq_false_iff_ne] ; exact gg.2)
    clear gg hxy
    go_wp2_with fail
    go_quiet (fail)
    go_wp2_with fail
    go_round
    case rel =>
     refine ⟨k + 1, by omega, by go_num, fun j z hj hz => ?_, HN.out.2.drewN _⟩
     by_cases hjk : j < k
     ·exact HN.out.1 j z hjk hz
     ·have : j = k := by omega
      subst this
      rw [HLK.out] at hz
      injection hz with hz
      subst hz
      exact HXY.out
    case measure => simp [intOf]; omega
   ·have hxy : decide (x = y) = false := jd (fun e => by subst e; simp at gg)
    have HXY := jh hxy
    (rw [gg.1] at c0) ; (rw [gg.2.1] at c1) ; (have g3 : (x.owner == y.owner) = false := by rw [beq_eq_false_iff_ne] ; exact gg.2.2)
    clear gg hxy
    go_wp2_with fail
    go_quiet (fail)
    go_wp2_with fail
    go_round
    case rel =>
     refine ⟨k + 1, by omega, by go_num, fun j z hj hz => ?_, HN.out.2.drewN _⟩
     by_cases hjk : j < k
     ·exact HN.out.1 j z hjk hz
     ·have : j = k := by omega
      subst this
      rw [HLK.out] at hz
      injection hz with hz
      subst hz
      exact HXY.out
    case measure => simp [intOf]; omega
   ·have hxy : decide (x = y) = false := jd (fun e => by subst e; simp at gg)
    have HXY := jh hxy
    (rw [gg.1] at c0) ; (rw [gg.2.1] at c1) ; (rw [gg.2.2.1] at c2) ; (have g3 : (x.epoch == y.epoch) = false := by rw [beq_eq_false_iff_ne] ; exact gg.2.2.2)
    clear gg hxy
    go_wp2_with fail
    go_quiet (fail)
    go_wp2_with fail
    go_round
    case rel =>
     refine ⟨k + 1, by omega, by go_num, fun j z hj hz => ?_, HN.out.2.drewN _⟩
     by_cases hjk : j < k
     ·exact HN.out.1 j z hjk hz
     ·have : j = k := by omega
      subst this
      rw [HLK.out] at hz
      injection hz with hz
      subst hz
      exact HXY.out
    case measure => simp [intOf]; omega
   ·have hxy : x = y := by obtain ⟨a1, a2, a3, a4⟩ := x; obtain ⟨b1, b2, b3, b4⟩ := y; simp at gg; simp [gg]
    subst hxy
    clear gg
    go_wp2_with fail
    go_quiet (fail)
    go_wp2_with fail
    go_ret
    refine ⟨?_, HB.out.1.tr (HN.out.2.drewN _)⟩
    rw [idxI_some HLK.out (by simp) HN.out.1]
    rfl
  ·have hkn : k = l.length := by omega
   clear hno hbl
   go_wp2_with fail
   go_ret
   refine ⟨?_, HB.out.1.tr HN.out.2⟩
   rw [idxI_none (fun j y hy => HN.out.1 j y (by have := (List.getElem?_eq_some_iff.1 hy).1; omega) hy)]
   rfl
theorem containsR (l : List Range) (x : Range) : decide (0 ≤ idxI (fun y => decide (x = y)) l) = decide (x ∈ l) := by
 rw [idxI_any]
 rw [Bool.eq_iff_iff, List.any_eq_true]
 constructor
 ·rintro ⟨y, hy, h⟩
  have h := of_decide_eq_true h
  subst h
  exact decide_eq_true hy
 ·intro h
  exact ⟨x, of_decide_eq_true h, by simp⟩
theorem containsR_any (A : Option Addr) (c : Nat) (l : List Range) (x : Range) (P : Nat → Prop) (w : World) (hr : RangeR.Row w P A l) (hl : l.length ≤ 1000000) :
 Calls Tryz.prog 183 #[.slice A l.length c, .agg #[.int .i64 x.first, .int .i64 x.last, .int .i64 x.owner, .int .i64 x.epoch]] w fun e w' => e = .returned (.bool (decide (x ∈ l))) ∧ Below w.heap.size w w' := by
 have hb0 := (jb w.heap.size w).al (.cells #[.int .i64 x.first, .int .i64 x.last, .int .i64 x.owner, .int .i64 x.epoch] 27)
 have B0 := Blk.new w 27 [.int .i64 x.first, .int .i64 x.last, .int .i64 x.owner, .int .i64 x.epoch]
 have C1 := indexR_any A c l x P (w.alloc (.cells #[.int .i64 x.first, .int .i64 x.last, .int .i64 x.owner, .int .i64 x.epoch] 27)) (hr.ext hb0) hl
 have HC := jh (containsR l x)
 clear hr
 go_enter Tryz.func183, Tryz.ntmps183
 go_wp2_with fail
 refine C1.mono ?_
 clear C1
 rintro e w1 ⟨rfl, hb1⟩
 have HB := jh (hb0.tr hb1)
 clear hb0 hb1 B0
 generalize idxI (fun y => decide (x = y)) l = i at *
 go_wp2_with fail
 all_goals
  go_ret
  exact ⟨ret_bool (by rw [← HC.out]), HB.out⟩
theorem clipRec_any (A : Option Addr) (n c : Nat) (w : World) (hc : n ≤ c) (hm : c ≤ 9223372036854775807) (hn : A = none → n = 0) :
 Calls Tryz.prog 184 #[.slice A n c] w fun e w' => e = .returned (.slice A n n) ∧ w = w' := by
 have hm' : n ≤ 9223372036854775807 := by omega
 cases A with
 | none =>
   obtain rfl := hn rfl
   go_enter Tryz.func184, Tryz.ntmps184
   go_wp2_with fail
   go_ret
   exact ⟨rfl, rfl⟩
 | some a =>
   clear hn
   go_enter Tryz.func184, Tryz.ntmps184
   go_wp2_with fail
   go_ret
   exact ⟨rfl, rfl⟩
end Go.Proofs.YtcmjgghkmdbphaaGreatDoor
namespace Go.Proofs.YtcmjgghkmdbphaaGreatDoor
open Go.RowKit
structure FzE (r : Rec) : Prop where
 nodes : r.nodes = []
 puts : r.batch.puts = []
 streams : r.streams = []
theorem freeze_empty {r : Rec} (h : checkR r = 0) (hk : r.kind = 9 ∨ r.kind = 11) : FzE r := by
 obtain ⟨_, h2, _, _⟩ := checkR_iff.1 h
 rcases hk with hk | hk <;> rw [hk] at h2 <;> simp [spareB, fieldsF] at h2 <;> exact ⟨by simp [h2], by simp [h2], by simp [h2]⟩
theorem rec_empty {w w' : World} {P : Nat → Prop} {r : Rec} {nA pA sA : Option Addr} {nc pc sc : Nat} (h : RecAt w P r nA nc pA pc sA sc) (he : FzE r) : RecAt w' (fun _ => False) r nA nc pA pc sA sc :=
 { h with
   nodes := ⟨h.nodes.1, h.nodes.2.1, by rw [he.nodes]; exact Rep.Row.nil_⟩
   puts := ⟨h.puts.1, h.puts.2.1, by rw [he.puts]; exact Rep.Row.nil_⟩
   streams := ⟨h.streams.1, h.streams.2.1, by rw [he.streams]; exact Rep.Row.nil_⟩ }
theorem freeze_any (g : Nat) (s : St) (r : Rec) (nA pA sA : Option Addr) (nc pc sc : Nat) (P Q : Nat → Prop) (w : World) (h : StAt w P g s) (hg : ¬ P g) (hS : Fit s)
 (hr : RecAt w Q r nA nc pA pc sA sc) (he : FzE r) :
 Calls Tryz.prog 95 #[ptrV g, .agg (r.cells nA nc pA pc sA sc).toArray] w (StOut w P g (freezeS s r)) := by
 have hgl := h.lt
 have HH := jh (ja h (ja hg (ja hS (ja hr he))))
 clear h hg hS hr he
 have hb1 := (jb w.heap.size w).al (.cells (r.cells nA nc pA pc sA sc).toArray 46)
 have B0 := Blk.new w 46 (r.cells nA nc pA pc sA sc)
 have hs1 : (w.alloc (.cells (r.cells nA nc pA pc sA sc).toArray 46)).heap.size = w.heap.size + 1 := by simp
 unfold ptrV
 go_enter Tryz.func95, Tryz.ntmps95
 go_upto_region 1 with fail
 refine forget (M := fun W => Code.wp _ _ _ _ W) (fun W => Below w.heap.size w W ∧ Blk W w.heap.size 46 (r.cells nA nc pA pc sA sc) ∧ W.heap.size = w.heap.size + 1) ⟨hb1, B0, hs1⟩ ?_
 clear B0 hb1 hs1
 rintro w1 ⟨hb1, B0, hs1⟩
 obtain ⟨v, hB, hI⟩ := HH.out.1
 obtain ⟨Ar, cr, hv, hc1, hc2, hrow⟩ := hI.ring
 have hvl : v.ring = .slice Ar s.ring.length cr := by injection hv
 have y4 : w1.cell? ⟨g, 4, none⟩ = some v.ring := (hB.ext hb1).cell 4
 rw [hvl] at y4
 have y4 := On.cell y4
 have y0 := On.cell ((hB.ext hb1).cell 0 : w1.cell? ⟨g, 0, none⟩ = some (.int .i64 s.self))
 have z13 := On.cell (B0.cell 13 : w1.cell? ⟨w.heap.size, 13, none⟩ = some (.int .i64 r.range.first))
 have z14 := On.cell (B0.cell 14 : w1.cell? ⟨w.heap.size, 14, none⟩ = some (.int .i64 r.range.last))
 have z15 := On.cell (B0.cell 15 : w1.cell? ⟨w.heap.size, 15, none⟩ = some (.int .i64 r.range.owner))
 have z16 := On.cell (B0.cell 16 : w1.cell? ⟨w.heap.size, 16, none⟩ = some (.int .i64 r.range.epoch))
 have HSP := jh (show freezeS s r = (if r.range ∉ s.ring ∨ r.range.owner ≠ s.self then (s, 8) else if 0 ≤ icedS s r.range.first ∨ lockedS s r.range = true then (s, 11) else if r.to < 1 ∨ s.nodes < r.to ∨ r.to = s.self then (s, 1) else ({ s with frozen := s.frozen ++ [r] }, 0)) from rfl)
 have CC := containsR_any Ar cr s.ring r.range P w1.drew (hrow.ext hb1.drew) HH.out.2.2.1.ring
 have H1 := jh (ja hb1 (ja B0 hs1))
 have HV := jh (ja hB hI)
 have hlo := jb w1.heap.size w1
 clear hB hI hv hvl hrow hb1 B0 hs1 hc1 hc2
 refine wp_region_mix (.seg [0, 1, 2, 3, 4, 5] 6 (.leaf [7, 8, 9, 10, 11, 12, 13, 14, 15, 16, 17, 18])) (fun w' => ∃ d : Wd (On w1), w' = d.w) (by kernel_rfl) (by kernel_rfl) (fun _ _ d _ _ h => by cases d <;> exact h) (ClsW.mk hlo.drew) ?_
 unfold wpMix; simp only [pick, j1, j2, j3, j4]
 (repeat (show wpQuiet _ _ _ _ (_ :: _) _; go_big_quiet_step (fail))); refine qn ?_
 go_wp2_with fail
 refine CC.mono ?_
 clear CC
 rintro e w2 ⟨rfl, hb2'⟩
 have hb2 : Below w1.heap.size w1 w2 := hlo.drew.tr hb2'
 have HB2 := jh (H1.out.1.tr hb2)
 have HB2' := jh hb2
 clear hb2'
 go_wp2_with fail
 by_cases hin : r.range ∈ s.ring
 ·rw [decide_eq_true hin]
  by_cases ho : r.range.owner = s.self
  ·have HE := jh (HSP.out.trans (if_neg (by simp [hin, ho])))
   have hoe : (r.range.owner != s.self) = false := by simp [ho]
   clear hin ho
   (refine segw (D := On w1) (hb2) ?_; unfold wpMix; simp only [pick, j1, j2, j3, j4]; (repeat (show wpQuiet _ _ _ _ (_ :: _) _; go_big_quiet_step (fail))); refine qn ?_)
   clear y4 y0 z13 z14 z15 z16 hb2 hlo hoe
   have B2 := H1.out.2.1.ext HB2'.out
   have z13 : w2.cell? ⟨w.heap.size, 13, none⟩ = some (.int .i64 r.range.first) := B2.cell 13
   have CI := iced_any g s r.range.first P w2 (by obtain ⟨v', a1, a2⟩ := HH.out.1; exact ⟨v', a1.ext HB2.out, a2.same (js HB2.out)⟩) HH.out.2.2.1.frozen
   unfold ptrV at CI
   clear B2
   go_wp2_with fail
   refine CI.mono ?_
   clear CI z13
   rintro e w3 ⟨rfl, hb3'⟩
   have HB3 := jh (HB2.out.tr hb3')
   have HB3' := jh (HB2'.out.tr hb3')
   clear hb3'
   by_cases hi : 0 ≤ icedS s r.range.first
   ·have HE2 := jh (HE.out.trans (if_pos (.inl hi)))
    generalize icedS s r.range.first = ic at *
    go_wp2_with fail
    go_ret
    unfold StOut
    rw [HE2.out]
    obtain ⟨v', a1, a2⟩ := HH.out.1
    exact ⟨rfl, ⟨v', a1.ext HB3.out, (a2.same (js HB3.out)).mono fun k hk => .inl hk⟩, jo HB3.out⟩
   ·have CL := locked_any g s r.range P w3 (by obtain ⟨v', a1, a2⟩ := HH.out.1; exact ⟨v', a1.ext HB3.out, a2.same (js HB3.out)⟩) HH.out.2.2.1.self (fun x hx => by have := (HH.out.2.2.1.held x hx).few; omega)
    unfold ptrV at CL
    have B3 := H1.out.2.1.ext HB3'.out
    have z13 : w3.cell? ⟨w.heap.size, 13, none⟩ = some (.int .i64 r.range.first) := B3.cell 13
    have z14 : w3.cell? ⟨w.heap.size, 14, none⟩ = some (.int .i64 r.range.last) := B3.cell 14
    have z15 : w3.cell? ⟨w.heap.size, 15, none⟩ = some (.int .i64 r.range.owner) := B3.cell 15
    have z16 : w3.cell? ⟨w.heap.size, 16, none⟩ = some (.int .i64 r.range.epoch) := B3.cell 16
    have HIC := jh hi
    clear B3
    generalize icedS s r.range.first = ic at *
    go_wp2_with fail
    refine CL.mono ?_
    clear CL z13 z14 z15 z16
    rintro e w4 ⟨rfl, hb4'⟩
    have HB4 := jh (HB3.out.tr hb4')
    have HB4' := jh (HB3'.out.tr hb4')
    clear hb4'
    cases hlk : lockedS s r.range
    rotate_left
    ·have HE2 := jh (HE.out.trans (if_pos (.inr hlk)))
     clear hlk
     go_wp2_with fail
     go_ret
     unfold StOut
     rw [HE2.out]
     obtain ⟨v', a1, a2⟩ := HH.out.1
     exact ⟨rfl, ⟨v', a1.ext HB4.out, (a2.same (js HB4.out)).mono fun k hk => .inl hk⟩, jo HB4.out⟩
    ·have HE1 := jh (HE.out.trans (if_neg (by rw [hlk]; simp; have := HIC.out; omega)))
     clear hlk
     go_upto_region 5 with fail
     have B4 := H1.out.2.1.ext HB4'.out
     have z2 : w4.cell? ⟨w.heap.size, 2, none⟩ = some (.int .i64 r.to) := B4.cell 2
     have y0 : w4.cell? ⟨g, 0, none⟩ = some (.int .i64 s.self) := (HV.out.1.ext HB4.out).cell 0
     have y1 : w4.cell? ⟨g, 1, none⟩ = some (.int .i64 s.nodes) := (HV.out.1.ext HB4.out).cell 1
     clear B4
     have hcase : r.to < 1 ∨ (¬ r.to < 1 ∧ s.nodes < r.to) ∨ (¬ r.to < 1 ∧ ¬ s.nodes < r.to ∧ r.to = s.self) ∨ (¬ r.to < 1 ∧ ¬ s.nodes < r.to ∧ r.to ≠ s.self) := by omega
     rcases hcase with h1 | ⟨h1, h2⟩ | ⟨h1, h2, h3⟩ | ⟨h1, h2, h3⟩
     ·have HE2 := jh (HE1.out.trans (if_pos (.inl h1)))
      go_quiet (fail)
      go_wp2_with fail
      go_ret
      unfold StOut
      rw [HE2.out]
      obtain ⟨v', a1, a2⟩ := HH.out.1
      exact ⟨rfl, ⟨v', a1.ext (HB4.out.drewN _), (a2.same (js (HB4.out.drewN _))).mono fun k hk => .inl hk⟩, jo (HB4.out.drewN _)⟩
     ·have HE2 := jh (HE1.out.trans (if_pos (.inr (.inl h2))))
      have g1 : decide (r.to < 1) = false := jd h1
      clear h1
      go_quiet (fail)
      go_wp2_with fail
      go_ret
      unfold StOut
      rw [HE2.out]
      obtain ⟨v', a1, a2⟩ := HH.out.1
      exact ⟨rfl, ⟨v', a1.ext (HB4.out.drewN _), (a2.same (js (HB4.out.drewN _))).mono fun k hk => .inl hk⟩, jo (HB4.out.drewN _)⟩
     ·have HE2 := jh (HE1.out.trans (if_pos (.inr (.inr h3))))
      have g1 : decide (r.to < 1) = false := jd h1
      have g2 : decide (s.nodes < r.to) = false := jd h2
      have g3 : (r.to == s.self) = true := beq_iff_eq.2 h3
      clear h1 h2 h3
      go_quiet (fail)
      go_wp2_with fail
      go_ret
      unfold StOut
      rw [HE2.out]
      obtain ⟨v', a1, a2⟩ := HH.out.1
      exact ⟨rfl, ⟨v', a1.ext (HB4.out.drewN _), (a2.same (js (HB4.out.drewN _))).mono fun k hk => .inl hk⟩, jo (HB4.out.drewN _)⟩
     ·have HE2 := jh (HE1.out.trans (if_neg (by simp; omega)))
      have g1 : decide (r.to < 1) = false := jd h1
      have g2 : decide (s.nodes < r.to) = false := jd h2
      have g3 : (r.to == s.self) = false := jn h3
      clear h1 h2 h3
      go_quiet (fail)
      clear z2 y0 y1
      go_upto_region 7 with fail
      have hb5 : Below w4.heap.size w4 (w4.drewN nq) := (jb _ _).drewN _
      generalize hw5 : w4.drewN nq = w5 at *
      have HB5 := jh (ja (HB4.out.tr hb5) (HB4'.out.tr hb5))
      clear hw5 hb5
      obtain ⟨Af, cf, hvf, hcf1, hcf2, hrowf⟩ := HV.out.2.frozen
      have hvl : v.frozen = .slice Af s.frozen.length cf := by injection hvf
      have y9 : w5.cell? ⟨g, 9, none⟩ = some v.frozen := (HV.out.1.ext HB5.out.1).cell 9
      rw [hvl] at y9
      have u9 := On.cell y9
      have B5 := H1.out.2.1.ext HB5.out.2
      unfold Rec.cells at B5
      have HBK := jh (fun (W : World) (hW : ∃ d : Wd (On w5), W = d.w) => (by obtain ⟨d, rfl⟩ := hW; exact B5.ext d.ok : Blk W w.heap.size 46 _))
      have CCL := fun W => clipRec_any Af s.frozen.length cf W hcf1 hcf2 (fun h => by
       rcases Nat.eq_zero_or_pos s.frozen.length with h0 | h0
       ·exact h0
       ·obtain ⟨_, _, h', _⟩ := hrowf h0; rw [h] at h'; cases h')
      have HROW := jh (ja (hrowf.ext HB5.out.1) hvl)
      have hfl := HH.out.2.2.1.frozen
      have hlo := jb w5.heap.size w5
      obtain ⟨i0, e1, e2, e3, e4⟩ := info_parts rec_info
      have hrr := (rec_rep.2 ⟨nA, nc, pA, pc, sA, sc, rfl, rec_empty (w' := w5) HH.out.2.2.2.1 HH.out.2.2.2.2⟩ : RecR.rep w5 (fun _ => False) (r.cells nA nc pA pc sA sc) r)
      unfold Rec.cells at hrr
      have hb6 := ((jb w5.heap.size w5).al (.cells (r.cells nA nc pA pc sA sc).toArray 46)).drew
      unfold Rec.cells at hb6
      have hrowR := (Rep.Row.new1 (t := 46) hrr).ext (jb _ _).drew
      have hrowF := HROW.out.1.ext hb6
      have hz6 := hb6.size
      clear y9 B5 hvf hcf1 hcf2 hrowf hvl hi
      refine wp_region_mix (.fork [0, 1, 2, 3, 4, 6] 5 (.seg [] 7 (.seg [] 8 (.seg [] 9 (.last [10] 11)))) 7 (.seg [] 5 (.seg [] 8 (.seg [] 9 (.last [10] 11))))) (fun w' => ∃ d : Wd (On w5), w' = d.w) (by kernel_rfl) (by kernel_rfl) (fun _ _ d _ _ h => by cases d <;> exact h) (ClsW.mk hlo.drew) ?_
      unfold wpMix; simp only [pick, j1, j2, j3, j4]
      (repeat (show wpQuiet _ _ _ _ (_ :: _) _; first | (refine wpQuiet_load_blk rfl rfl rfl HBK.out Tryz.underlying46 rfl (by kernel_rfl) ?_; go_simp) | go_big_quiet_step (fail))); refine qn ?_
      constructor
      ·go_wp2_with fail
       refine (CCL _).mono ?_
       rintro e w' ⟨rfl, rfl⟩
       go_wp2_with fail
       (refine segw (D := On w5) (hlo.drew) ?_; unfold wpMix; simp only [pick, j1, j2, j3, j4]; (repeat (show wpQuiet _ _ _ _ (_ :: _) _; go_big_quiet_step (fail))); refine qn ?_)
       go_wp2_with fail
       (refine segw (D := On w5) (hb6) ?_; unfold wpMix; simp only [pick, j1, j2, j3, j4]; (repeat (show wpQuiet _ _ _ _ (_ :: _) _; go_big_quiet_step (fail))); refine qn ?_)
       refine wpList_append_full (R := RecR) _ rfl (.tmp 64) (.tmp 66) _ rfl 46 i0 _ 200 Tryz.underlying22 e1 e2 e3 e4 rfl Af s.frozen _ _ rfl hrowF _ 1 [r] rfl hrowR (by unfold maxLen; simp; omega) (by simp; omega) ?_
       intro v8 w8 hl8 hb8'
       obtain ⟨A8, c8, hv8, hl81, hl82, hl83⟩ := hl8
       obtain rfl : v8 = .slice A8 (s.frozen ++ [r]).length c8 := by injection hv8
       have hb8 : Below w5.heap.size w5 w8 := hb6.tr hb8'
       (refine segw (D := On w5) (hb8) ?_; unfold wpMix; simp only [pick, j1, j2, j3, j4]; (repeat (show wpQuiet _ _ _ _ (_ :: _) _; go_big_quiet_step (fail))); refine qn ?_)
       go_wp2_with fail
       (refine segw (D := On w5) (hb8) ?_; unfold wpMix; simp only [pick, j1, j2, j3, j4]; (repeat (show wpQuiet _ _ _ _ (_ :: _) _; go_big_quiet_step (fail))); refine qn ?_)
       clear u9 hlo hrowF hrowR hrr
       have hw8 := HB5.out.1.tr hb8
       have b9 : w8.cell? ⟨g, 9, none⟩ = some v.frozen := (HV.out.1.ext hw8).cell 9
       have b9f : w8.frozen? ⟨g, 9, none⟩ = false := (HV.out.1.ext hw8).frozen 9
       have B9 : Blk (w8.setCell ⟨g, 9, none⟩ (.slice A8 (s.frozen ++ [r]).length c8)) g 176 (St.cells { s with frozen := s.frozen ++ [r] } { v with frozen := .slice A8 (s.frozen ++ [r]).length c8 }) := (HV.out.1.ext hw8).set_ 9 _
       have O9 : Only (fun k => k = g) w8 (w8.setCell ⟨g, 9, none⟩ (.slice A8 (s.frozen ++ [r]).length c8)) := Only.set_ (F := fun k => k = g) rfl _
       rw [List.length_append] at B9 O9
       have H9 := jh (ja B9 (ja O9 (ja hw8 (ja hl81 (ja hl82 (ja hl83 hz6))))))
       clear B9 O9 hw8 hb8 hb8' hl81 hl82 hl83 hb6
       go_wp2_with fail
       dsimp only [wpList, SegQ]
       generalize hw9 : w8.setCell ⟨g, 9, none⟩ (.slice A8 (s.frozen.length + [r].length) c8) = w9 at *
       clear hw9 b9 b9f
       go_wp2_with fail
       go_ret
       unfold StOut
       rw [HE2.out]
       obtain ⟨B9, O9, hw8, hl81, hl82, hl83, hz6⟩ := H9.out
       have hO : Only (· = g) w w9 := (jo hw8).tr O9
       have hI9 := (HV.out.2.same (Same.of_only hO fun k hk e => HH.out.2.1 (e ▸ hk))).mono (Q := fun k => P k ∨ w.heap.size ≤ k) fun k hk => .inl hk
       have hz5 := HB5.out.1.size
       refine ⟨rfl, ⟨_, B9, { hI9 with frozen := ⟨A8, c8, by rw [List.length_append], hl81, hl82, ?_⟩ }⟩, hO⟩
       refine (hl83.mono (Q := fun k => (P k ∨ w.heap.size ≤ k) ∧ k ≠ g) fun k hk _ => ?_).same (Same.of_only O9 fun k hk e => hk.2 e) O9.size |>.mono fun k hk _ => hk.1
       rcases hk with hk | ⟨hk, _⟩ | hk
       ·exact ⟨.inl hk, fun e => HH.out.2.1 (e ▸ hk)⟩
       ·rcases hk with hk | hk
        ·exact hk.elim
        ·exact ⟨.inr (by omega), by omega⟩
       ·exact ⟨.inr (by omega), by omega⟩
      ·go_wp2_with fail
       (refine segw (D := On w5) (hb6) ?_; unfold wpMix; simp only [pick, j1, j2, j3, j4]; (repeat (show wpQuiet _ _ _ _ (_ :: _) _; go_big_quiet_step (fail))); refine qn ?_)
       go_wp2_with fail
       refine (CCL _).mono ?_
       rintro e w' ⟨rfl, rfl⟩
       go_wp2_with fail
       (refine segw (D := On w5) (hb6) ?_; unfold wpMix; simp only [pick, j1, j2, j3, j4]; (repeat (show wpQuiet _ _ _ _ (_ :: _) _; go_big_quiet_step (fail))); refine qn ?_)
       refine wpList_append_full (R := RecR) _ rfl (.tmp 64) (.tmp 66) _ rfl 46 i0 _ 200 Tryz.underlying22 e1 e2 e3 e4 rfl Af s.frozen _ _ rfl hrowF _ 1 [r] rfl hrowR (by unfold maxLen; simp; omega) (by simp; omega) ?_
       intro v8 w8 hl8 hb8'
       obtain ⟨A8, c8, hv8, hl81, hl82, hl83⟩ := hl8
       obtain rfl : v8 = .slice A8 (s.frozen ++ [r]).length c8 := by injection hv8
       have hb8 : Below w5.heap.size w5 w8 := hb6.tr hb8'
       (refine segw (D := On w5) (hb8) ?_; unfold wpMix; simp only [pick, j1, j2, j3, j4]; (repeat (show wpQuiet _ _ _ _ (_ :: _) _; go_big_quiet_step (fail))); refine qn ?_)
       go_wp2_with fail
       (refine segw (D := On w5) (hb8) ?_; unfold wpMix; simp only [pick, j1, j2, j3, j4]; (repeat (show wpQuiet _ _ _ _ (_ :: _) _; go_big_quiet_step (fail))); refine qn ?_)
       clear u9 hlo hrowF hrowR hrr
       have hw8 := HB5.out.1.tr hb8
       have b9 : w8.cell? ⟨g, 9, none⟩ = some v.frozen := (HV.out.1.ext hw8).cell 9
       have b9f : w8.frozen? ⟨g, 9, none⟩ = false := (HV.out.1.ext hw8).frozen 9
       have B9 : Blk (w8.setCell ⟨g, 9, none⟩ (.slice A8 (s.frozen ++ [r]).length c8)) g 176 (St.cells { s with frozen := s.frozen ++ [r] } { v with frozen := .slice A8 (s.frozen ++ [r]).length c8 }) := (HV.out.1.ext hw8).set_ 9 _
       have O9 : Only (fun k => k = g) w8 (w8.setCell ⟨g, 9, none⟩ (.slice A8 (s.frozen ++ [r]).length c8)) := Only.set_ (F := fun k => k = g) rfl _
       rw [List.length_append] at B9 O9
       have H9 := jh (ja B9 (ja O9 (ja hw8 (ja hl81 (ja hl82 (ja hl83 hz6))))))
       clear B9 O9 hw8 hb8 hb8' hl81 hl82 hl83 hb6
       go_wp2_with fail
       dsimp only [wpList, SegQ]
       generalize hw9 : w8.setCell ⟨g, 9, none⟩ (.slice A8 (s.frozen.length + [r].length) c8) = w9 at *
       clear hw9 b9 b9f
       go_wp2_with fail
       go_ret
       unfold StOut
       rw [HE2.out]
       obtain ⟨B9, O9, hw8, hl81, hl82, hl83, hz6⟩ := H9.out
       have hO : Only (· = g) w w9 := (jo hw8).tr O9
       have hI9 := (HV.out.2.same (Same.of_only hO fun k hk e => HH.out.2.1 (e ▸ hk))).mono (Q := fun k => P k ∨ w.heap.size ≤ k) fun k hk => .inl hk
       have hz5 := HB5.out.1.size
       refine ⟨rfl, ⟨_, B9, { hI9 with frozen := ⟨A8, c8, by rw [List.length_append], hl81, hl82, ?_⟩ }⟩, hO⟩
       refine (hl83.mono (Q := fun k => (P k ∨ w.heap.size ≤ k) ∧ k ≠ g) fun k hk _ => ?_).same (Same.of_only O9 fun k hk e => hk.2 e) O9.size |>.mono fun k hk _ => hk.1
       rcases hk with hk | ⟨hk, _⟩ | hk
       ·exact ⟨.inl hk, fun e => HH.out.2.1 (e ▸ hk)⟩
       ·rcases hk with hk | hk
        ·exact hk.elim
        ·exact ⟨.inr (by omega), by omega⟩
       ·exact ⟨.inr (by omega), by omega⟩
  ·have HE := jh (HSP.out.trans (if_pos (.inr ho)))
   have hoe : (r.range.owner != s.self) = true := bne_iff_ne.2 ho
   clear hin ho
   (refine segw (D := On w1) (hb2) ?_; unfold wpMix; simp only [pick, j1, j2, j3, j4]; (repeat (show wpQuiet _ _ _ _ (_ :: _) _; go_big_quiet_step (fail))); refine qn ?_)
   clear y4 y0 z13 z14 z15 z16 hb2 hlo
   go_wp2_with fail
   go_ret
   unfold StOut
   rw [HE.out]
   obtain ⟨v', a1, a2⟩ := HH.out.1
   exact ⟨rfl, ⟨v', a1.ext HB2.out, (a2.same (js HB2.out)).mono fun k hk => .inl hk⟩, jo HB2.out⟩
 ·have HE := jh (HSP.out.trans (if_pos (.inl hin)))
  rw [jd hin]
  clear hin
  (refine segw (D := On w1) (hb2) ?_; unfold wpMix; simp only [pick, j1, j2, j3, j4]; (repeat (show wpQuiet _ _ _ _ (_ :: _) _; go_big_quiet_step (fail))); refine qn ?_)
  clear y4 y0 z13 z14 z15 z16 hb2 hlo
  go_wp2_with fail
  go_ret
  unfold StOut
  rw [HE.out]
  obtain ⟨v', a1, a2⟩ := HH.out.1
  exact ⟨rfl, ⟨v', a1.ext HB2.out, (a2.same (js HB2.out)).mono fun k hk => .inl hk⟩, jo HB2.out⟩
end Go.Proofs.YtcmjgghkmdbphaaGreatDoor
namespace Go.Proofs.YtcmjgghkmdbphaaGreatDoor
open Go.RowKit
theorem span_any (r : Range) (w : World) : Calls Tryz.prog 186 #[.agg #[.int .i64 r.first, .int .i64 r.last, .int .i64 r.owner, .int .i64 r.epoch]] w fun e w' => e = .returned (.bool (spanB r)) ∧ Below w.heap.size w w' := by
 go_enter Tryz.func186, Tryz.ntmps186
 go_wp2
 all_goals
  go_ret
  refine ⟨ret_bool ?_, by repeat (with_reducible first | assumption | exact jb _ _ | refine Below.al ?_ _ | refine Below.drew ?_ | apply Below.st1)⟩
  go_light
  unfold spanB
  rw [Bool.eq_iff_iff]
  simp at *
  omega
end Go.Proofs.YtcmjgghkmdbphaaGreatDoor
namespace Go.Proofs.YtcmjgghkmdbphaaGreatDoor
open Go.RowKit
def stopsN (s : St) (r x : Range) : Bool := decide (r.first ≤ r.last) && (decide (x.first ≤ r.last) && (decide (r.first ≤ x.last) && (decide (x.owner = s.self) || decide (r.epoch ≤ x.epoch))))
theorem newer_any (g : Nat) (s : St) (r : Range) (P : Nat → Prop) (w : World) (h : StAt w P g s) (hl : s.ring.length ≤ 1000000) :
 Calls Tryz.prog 185 #[ptrV g, .agg #[.int .i64 r.first, .int .i64 r.last, .int .i64 r.owner, .int .i64 r.epoch]] w fun e w' => e = .returned (.bool (newerS s r)) ∧ Below w.heap.size w w' := by
 obtain ⟨v, hB, hI⟩ := h
 obtain ⟨Ar, cr, hv, hc1, hc2, hrow⟩ := hI.ring
 have hvl : v.ring = .slice Ar s.ring.length cr := by injection hv
 have hb0 := (jb w.heap.size w).al (.cells #[.int .i64 r.first, .int .i64 r.last, .int .i64 r.owner, .int .i64 r.epoch] 27)
 have B0 := Blk.new w 27 [.int .i64 r.first, .int .i64 r.last, .int .i64 r.owner, .int .i64 r.epoch]
 have HR := jh (hrow.mono (Q := fun g => g < w.heap.size) fun g _ h => h)
 have HV := jh (ja hB hvl)
 have HN := jh (show newerS s r = (decide (r.owner = s.self) && s.ring.all fun x => !stopsN s r x) from rfl)
 clear hB hI hv hvl hrow hc1 hc2
 unfold ptrV
 go_enter Tryz.func185, Tryz.ntmps185
 go_upto_region 1 with fail
 generalize hw1 : (w.alloc (.cells #[.int .i64 r.first, .int .i64 r.last, .int .i64 r.owner, .int .i64 r.epoch] 27)) = w1 at *
 clear hw1
 have z2 : w1.cell? ⟨w.heap.size, 2, none⟩ = some (.int .i64 r.owner) := B0.cell 2
 have y0 : w1.cell? ⟨g, 0, none⟩ = some (.int .i64 s.self) := (HV.out.1.ext hb0).cell 0
 have HB := jh (ja hb0 B0)
 clear hb0 B0
 by_cases ho : r.owner = s.self
 ·have HO := jh (show newerS s r = s.ring.all fun x => !stopsN s r x from by rw [HN.out, decide_eq_true ho]; rfl)
  rw [ho] at z2
  clear ho
  go_quiet (fail)
  have hb1 : Below w1.heap.size w1 (w1.drewN nq) := (jb _ _).drewN _
  generalize hw2 : w1.drewN nq = w2 at *
  have HB2 := jh (ja (HB.out.1.tr hb1) (HB.out.2.ext hb1))
  clear hw2 hb1 z2 y0
  have y4 : w2.cell? ⟨g, 4, none⟩ = some v.ring := (HV.out.1.ext HB2.out.1).cell 4
  rw [HV.out.2] at y4
  go_wp2_with fail
  clear y4
  go_loopw [19] (fun i wr => ∃ k : Nat, k ≤ s.ring.length ∧ i = .int .i64 k ∧ (∀ (j : Nat) (y : Range), j < k → s.ring[j]? = some y → stopsN s r y = false) ∧ Below w2.heap.size w2 wr) (fun i _ => s.ring.length - (intOf i).toNat)
  case atStart => exact ⟨0, Nat.zero_le _, rfl, fun j y hj => absurd hj (by omega), jb _ _⟩
  case round =>
   obtain ⟨k, hk, rfl, hno, hbl⟩ := hrel
   have HNO := jh (ja hno hbl)
   clear hno
   by_cases hlt : k < s.ring.length
   ·have hlk := jg hlt
    obtain ⟨bb, o, cs, rfl, hP, hbw, hrep, hcs⟩ := (HR.out.ext (HB2.out.1.tr hbl)).at_ hlk
    generalize s.ring[k] = x at *
    obtain ⟨rfl, _⟩ := range_rep.1 hrep
    have HLK := jh hlk
    have c0 := hcs 0 _ rfl; have c1 := hcs 1 _ rfl; have c2 := hcs 2 _ rfl; have c3 := hcs 3 _ rfl; simp only [RangeR_size, Nat.add_zero] at c0 c1 c2 c3
    have hlt' : (k : Int) < s.ring.length := by omega
    have hbx := (jb wr.heap.size wr).al (.cells #[.int .i64 x.first, .int .i64 x.last, .int .i64 x.owner, .int .i64 x.epoch] 27)
    have BX := Blk.new wr 27 [.int .i64 x.first, .int .i64 x.last, .int .i64 x.owner, .int .i64 x.epoch]
    clear hlk hrep hcs
    go_upto_region 6 with fail
    generalize hw5 : (wr.alloc (.cells #[.int .i64 x.first, .int .i64 x.last, .int .i64 x.owner, .int .i64 x.epoch] 27)) = w5 at *
    have h25 := hbl.tr hbx
    have BR := HB2.out.2.ext h25
    have u0 : w5.cell? ⟨wr.heap.size, 0, none⟩ = some (.int .i64 x.first) := BX.cell 0
    have u1 : w5.cell? ⟨wr.heap.size, 1, none⟩ = some (.int .i64 x.last) := BX.cell 1
    have u2 : w5.cell? ⟨wr.heap.size, 2, none⟩ = some (.int .i64 x.owner) := BX.cell 2
    have u3 : w5.cell? ⟨wr.heap.size, 3, none⟩ = some (.int .i64 x.epoch) := BX.cell 3
    have z0 : w5.cell? ⟨w.heap.size, 0, none⟩ = some (.int .i64 r.first) := BR.cell 0
    have z1 : w5.cell? ⟨w.heap.size, 1, none⟩ = some (.int .i64 r.last) := BR.cell 1
    have z3 : w5.cell? ⟨w.heap.size, 3, none⟩ = some (.int .i64 r.epoch) := BR.cell 3
    have y0 : w5.cell? ⟨g, 0, none⟩ = some (.int .i64 s.self) := (HV.out.1.ext (HB2.out.1.tr h25)).cell 0
    have H5 := jh h25
    clear hw5 hbx BX BR h25 hbl c0 c1 c2 c3
    have hcase : (¬ r.first ≤ r.last) ∨ (r.first ≤ r.last ∧ ¬ x.first ≤ r.last) ∨ (r.first ≤ r.last ∧ x.first ≤ r.last ∧ ¬ r.first ≤ x.last) ∨ (r.first ≤ r.last ∧ x.first ≤ r.last ∧ r.first ≤ x.last ∧ x.owner ≠ s.self ∧ ¬ r.epoch ≤ x.epoch) ∨
     (r.first ≤ r.last ∧ x.first ≤ r.last ∧ r.first ≤ x.last ∧ x.owner = s.self) ∨ (r.first ≤ r.last ∧ x.first ≤ r.last ∧ r.first ≤ x.last ∧ x.owner ≠ s.self ∧ r.epoch ≤ x.epoch) := by omega
    rcases hcase with h1 | ⟨h1, h2⟩ | ⟨h1, h2, h3⟩ | ⟨h1, h2, h3, h4, h5⟩ | ⟨h1, h2, h3, h4⟩ | ⟨h1, h2, h3, h4, h5⟩
    ·have HST := jh (show stopsN s r x = false from by simp [stopsN, h1])
     (have g1 := jd h1)
     go_quiet (fail)
     go_wp2_with fail
     go_round
     case rel =>
      refine ⟨k + 1, by omega, by go_num, fun j z hj hz => ?_, H5.out.drewN _⟩
      by_cases hjk : j < k
      ·exact HNO.out.1 j z hjk hz
      ·have : j = k := by omega
       subst this
       rw [HLK.out] at hz
       injection hz with hz
       subst hz
       exact HST.out
     case measure => simp [intOf]; omega
    ·have HST := jh (show stopsN s r x = false from by simp [stopsN, h2])
     (have g2 := jd h2)
     go_quiet (fail)
     go_wp2_with fail
     go_round
     case rel =>
      refine ⟨k + 1, by omega, by go_num, fun j z hj hz => ?_, H5.out.drewN _⟩
      by_cases hjk : j < k
      ·exact HNO.out.1 j z hjk hz
      ·have : j = k := by omega
       subst this
       rw [HLK.out] at hz
       injection hz with hz
       subst hz
       exact HST.out
     case measure => simp [intOf]; omega
    ·have HST := jh (show stopsN s r x = false from by simp [stopsN, h3])
     (have g3 := jd h3)
     go_quiet (fail)
     go_wp2_with fail
     go_round
     case rel =>
      refine ⟨k + 1, by omega, by go_num, fun j z hj hz => ?_, H5.out.drewN _⟩
      by_cases hjk : j < k
      ·exact HNO.out.1 j z hjk hz
      ·have : j = k := by omega
       subst this
       rw [HLK.out] at hz
       injection hz with hz
       subst hz
       exact HST.out
     case measure => simp [intOf]; omega
    ·have HST := jh (show stopsN s r x = false from by simp [stopsN, h4, h5])
     (have g4 : (x.owner == s.self) = false := jn h4) ; (have g5 := jd h5)
     go_quiet (fail)
     go_wp2_with fail
     go_round
     case rel =>
      refine ⟨k + 1, by omega, by go_num, fun j z hj hz => ?_, H5.out.drewN _⟩
      by_cases hjk : j < k
      ·exact HNO.out.1 j z hjk hz
      ·have : j = k := by omega
       subst this
       rw [HLK.out] at hz
       injection hz with hz
       subst hz
       exact HST.out
     case measure => simp [intOf]; omega
    ·have HST := jh (show stopsN s r x = true from by simp [stopsN, h1, h2, h3, h4])
     (have g4 : (x.owner == s.self) = true := beq_iff_eq.2 h4)
     go_quiet (fail)
     go_wp2_with fail
     go_ret
     refine ⟨ret_bool ?_, HB2.out.1.tr (H5.out.drewN _)⟩
     rw [HO.out, eq_comm, List.all_eq_false]
     exact ⟨x, List.mem_of_getElem? HLK.out, by rw [HST.out]; simp⟩
    ·have HST := jh (show stopsN s r x = true from by simp [stopsN, h1, h2, h3, h5])
     (have g4 : (x.owner == s.self) = false := jn h4)
     go_quiet (fail)
     go_wp2_with fail
     go_ret
     refine ⟨ret_bool ?_, HB2.out.1.tr (H5.out.drewN _)⟩
     rw [HO.out, eq_comm, List.all_eq_false]
     exact ⟨x, List.mem_of_getElem? HLK.out, by rw [HST.out]; simp⟩
   ·have hkn : k = s.ring.length := by omega
    clear hbl
    go_wp2_with fail
    go_ret
    refine ⟨ret_bool ?_, HB2.out.1.tr HNO.out.2⟩
    rw [HO.out, eq_comm, List.all_eq_true]
    intro y hy
    obtain ⟨j, hj, rfl⟩ := List.getElem_of_mem hy
    rw [HNO.out.1 j _ (by omega) (jg hj)]; rfl
 ·have hne : (r.owner != s.self) = true := bne_iff_ne.2 ho
  have HO := jh (show newerS s r = false from by rw [HN.out, jd ho]; rfl)
  clear ho
  go_quiet (fail)
  go_wp2_with fail
  go_ret
  exact ⟨ret_bool HO.out.symm, HB.out.1.drewN _⟩
end Go.Proofs.YtcmjgghkmdbphaaGreatDoor
