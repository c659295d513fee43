/- table: some, Take. table.alike. ring.New, state.New, gone. state: gone, New, Version, serves. table.Put. state.whole, state.fresh. event.Make: a batch's events. state.put. what putting a batch in does (plain law). the ring: split, set, laid around (plain law). The reference's ring: SoundRing and Find of a sound ring. Ranging over a map within a range over a function: the laws of Mf for fenced goals. -/
import Derived.Test.YtcmjgghkmdbphaaGreatDoorD08
import Derived.Test.YtcmjgghkmdbphaaGreatDoorD06
import Derived.Laws.StructEq
import Derived.Shelf.SlMaps.Clone
import Derived.Deep.DeepCutAuto
import Derived.Test.YtcmjgghkmdbphaaGreatDoorD07
import Derived.Deep.AppendSrc
import Derived.Test.YtcmjgghkmdbphaaGreatDoorD04
import Derived.Test.YtcmjgghkmdbphaaGreatDoorD02
import Derived.Sort.MapsRangeIn
set_option maxRecDepth 20000
set_option maxHeartbeats 25600000
namespace Go.Proofs.YtcmjgghkmdbphaaGreatDoor
open Go.RowKit
theorem Rep.Own.base' {α : Type} {R : Rep α} {w : World} {base base' e : Nat} {S : Nat → Prop} {v : Value} {l : List α} (h : R.Own w base e S v l) (hb : base' ≤ base) : R.Own w base' e S v l := by
 obtain ⟨xs, h1, h2⟩ := h
 exact ⟨xs, h1.base_ fun g hg => Nat.le_trans hb (h1.lt g hg).1, h2⟩
end Go.Proofs.YtcmjgghkmdbphaaGreatDoor
namespace Go.Proofs.YtcmjgghkmdbphaaGreatDoor
open Go.RowKit
theorem str_ne {a b : Str} (h : a ≠ b) : (a.toList == b.toList) = false := by
 rw [beq_eq_false_iff_ne]
 intro e
 rw [ByteArray.toList_eq, ByteArray.toList_eq] at e
 exact h (by cases a; cases b; simpa using e)
end Go.Proofs.YtcmjgghkmdbphaaGreatDoor
namespace Go.Proofs.YtcmjgghkmdbphaaGreatDoor
open Go.RowKit
theorem begin_any (n k : Int) (b : Nat) (w : World) (hb : w.cell? ⟨b, 0, none⟩ = some (.int .i64 n)) (hn : 1 ≤ n ∧ n ≤ 5) (hk : 0 ≤ k ∧ k ≤ 5) : Calls Tryz.prog 170 #[.int .i64 k, .pointer (some ⟨b, 0, none⟩)] w fun e w' => e = .returned (.int .i64 (beginR n k)) ∧ w = w' := by
 obtain ⟨n1, n2⟩ := hn
 obtain ⟨k1, k2⟩ := hk
 have h1 : wrap64 (k * 4294967296) = k * 4294967296 := wrap_in _ (by omega)
 have hn0 : (n == 0) = false := by rw [beq_eq_false_iff_ne]; omega
 go_enter Tryz.func170, Tryz.ntmps170
 go_wp2
 go_ret
 exact ⟨rfl, rfl⟩
theorem begin_bd (n k : Int) (hn : 1 ≤ n ∧ n ≤ 5) (hk : 0 ≤ k ∧ k ≤ 5) : 0 ≤ beginR n k ∧ beginR n k ≤ 21474836480 := by
 unfold beginR
 refine ⟨Int.ediv_nonneg (by omega) (by omega), ?_⟩
 exact Int.le_trans (Int.ediv_le_self _ (by omega)) (by omega)
def GotRing (B : Nat) (n : Int) (e : Ending) (w' : World) : Prop := ∃ v, e = .returned (.tuple #[v, .int .i64 (newR n).2]) ∧ RangeR.Own w' B 27 (fun _ => False) v (newR n).1
theorem newRing_any (n : Int) (w : World) : Calls Tryz.prog 83 #[.int .i64 n] w fun e w' => GotRing w.heap.size n e w' ∧ Below w.heap.size w w' := by
 by_cases hn : n < 1 ∨ 5 < n
 ·have HE := jh (show newR n = ([], 1) from by unfold newR; rw [if_pos hn])
  have hn1 : n < 1 ∨ (decide (n < 1) = false ∧ 5 < n) := by
   by_cases h : n < 1
   ·exact .inl h
   ·exact .inr ⟨jd h, by omega⟩
  clear hn
  rcases hn1 with h | ⟨h, h'⟩
  ·go_enter Tryz.func83, Tryz.ntmps83
   go_wp2_with fail
   go_ret2
   exact ⟨⟨_, by rw [HE.out]; rfl, by rw [HE.out]; exact Rep.Own.nil_⟩, (jb _ _).al _⟩
  ·go_enter Tryz.func83, Tryz.ntmps83
   go_wp2_with fail
   go_ret2
   exact ⟨⟨_, by rw [HE.out]; rfl, by rw [HE.out]; exact Rep.Own.nil_⟩, (jb _ _).al _⟩
 ·have HE := jh (show newR n = ((List.range n.toNat).map (newRange n), 0) from by unfold newR; rw [if_neg hn])
  obtain ⟨N, rfl⟩ : ∃ N : Nat, n = N := ⟨n.toNat, by omega⟩
  have hN : 1 ≤ N ∧ N ≤ 5 := by omega
  have h1 : decide ((N : Int) < 1) = false := jd (by omega)
  have h2 : decide ((5 : Int) < (N : Int)) = false := jd (by omega)
  have B0 := Blk.new w 3 [.int .i64 (N : Int)]
  have hw0 := (jb w.heap.size w).al (.cells #[.int .i64 (N : Int)] 3)
  clear hn
  go_enter Tryz.func83, Tryz.ntmps83
  go_upto_region 5 with fail
  have hz : (w.alloc (.cells #[.int .i64 (N : Int)] 3)).heap.size = w.heap.size + 1 := by simp
  generalize (w.alloc (.cells #[.int .i64 (N : Int)] 3)) = w0 at *
  obtain ⟨N1, N2⟩ := hN
  go_loopw [2, 14] (fun out i wr => ∃ k : Nat, k ≤ N ∧ i = .int .i64 k ∧ RangeR.Own wr w0.heap.size 27 (fun _ => True) out ((List.range k).map (newRange N)) ∧ Below w0.heap.size w0 wr) (fun _ i _ => N - (intOf i).toNat)
  case atStart => exact ⟨0, Nat.zero_le _, rfl, by simpa using Rep.Own.nil_, jb _ _⟩
  case round =>
   obtain ⟨k, hk, rfl, hout, hbl⟩ := hrel
   by_cases hlt : k < N
   ·have hlt' : (k : Int) < (N : Int) := by omega
    have bd1 := begin_bd N k (by omega) (by omega)
    have bd2 := begin_bd N (k + 1) (by omega) (by omega)
    have b0 : wr.cell? ⟨w.heap.size, 0, none⟩ = some (.int .i64 (N : Int)) := (B0.below hbl (by omega)).cell 0
    have C1 := begin_any N k w.heap.size wr b0 (by omega) (by omega)
    have C2 := begin_any N (k + 1) w.heap.size wr b0 (by omega) (by omega)
    have hlen : ((List.range k).map (newRange (N : Int))).length = k := by simp
    obtain ⟨Ao, co, hu, _⟩ := hout.form
    rw [hlen] at hu
    subst hu
    have hrx : RangeR.rep wr (fun _ => False) [.int .i64 (beginR N k), .int .i64 (beginR N (k + 1) - 1), .int .i64 ((k : Int) + 1), .int .i64 1] (newRange N k) :=
     range_rep.2 ⟨rfl, show i64 (beginR N k) from ⟨by omega, by omega⟩, show i64 (beginR N (k + 1) - 1) from ⟨by omega, by omega⟩, show i64 ((k : Int) + 1) from ⟨by omega, by omega⟩, show i64 1 from ⟨by omega, by omega⟩⟩
    obtain ⟨i0, e1, e2, e3, e4⟩ := info_parts range_info
    have hwz := hbl.size
    have HBL := jh hbl
    obtain ⟨bd11, bd12⟩ := bd1
    obtain ⟨bd21, bd22⟩ := bd2
    clear hbl
    go_wp2_with fail
    refine C1.mono ?_
    clear C1
    rintro e w' ⟨rfl, rfl⟩
    go_wp2_with fail
    refine C2.mono ?_
    clear C2 b0
    rintro e w' ⟨rfl, rfl⟩
    go_wp2_with (first
     | (at_builtin; refine wpList_append_new (R := RangeR) wr rfl (.tmp 17) (.tmp 29) _ rfl w0.heap.size 27 i0 _ 32 Tryz.underlying58 e1 e2 e3 e4 rfl _ ((List.range k).map (newRange (N : Int))) (fun _ => True) rfl hout (fun _ _ => trivial) rfl (fun _ => False) _ hrx (fun _ h => h.elim) (by unfold maxLen; omega) (by omega) hwz ?_; intro v1 w6 ho1 hg1 hat1 hn1 hb6)
     | fail)
    go_round
    case rel =>
     refine ⟨k + 1, by omega, by go_num, ?_, HBL.out.trans hb6⟩
     rw [List.range_succ, List.map_append]
     exact ho1
    case measure => simp [intOf]; omega
   ·have hkn : k = N := by omega
    subst hkn
    go_wp2_with fail
    go_ret2
    refine ⟨⟨_, by rw [HE.out]; rfl, ?_⟩, hw0.trans (hbl.mono (by omega))⟩
    rw [HE.out]
    exact (hout.plain range_plain).base' (by omega)
end Go.Proofs.YtcmjgghkmdbphaaGreatDoor
namespace Go.Proofs.YtcmjgghkmdbphaaGreatDoor
open Go.RowKit
theorem gone_any (g : Nat) (n : Int) (w : World) (hb : w.cell? ⟨g, 0, none⟩ = some (.int .i64 n)) (hn : n ≠ 0) : Calls Tryz.prog 86 #[ptrV g] w fun e w' => e = .returned (.bool false) ∧ w = w' := by
 have h0 : (n == 0) = false := by rw [beq_eq_false_iff_ne]; exact hn
 clear hn
 unfold ptrV
 go_enter Tryz.func86, Tryz.ntmps86
 go_wp2
 go_ret
 exact ⟨rfl, rfl⟩
def GotState (B : Nat) (self nodes : Int) (e : Ending) (w' : World) : Prop := match newS self nodes with
 | none => e = .returned (.tuple #[.pointer none, .int .i64 1])
 | some st => ∃ g, e = .returned (.tuple #[ptrV g, .int .i64 0]) ∧ B ≤ g ∧ StAt w' (fun k => B ≤ k ∧ k ≠ g) g st ∧ w'.cell? ⟨g, 6, none⟩ = some (.map none)
theorem newR_err (n : Int) : (newR n).2 = if n < 1 ∨ 5 < n then 1 else 0 := by unfold newR; split <;> rfl
theorem newState_any (self nodes : Int) (w : World) (h1 : i64 self) (h2 : i64 nodes) : Calls Tryz.prog 17 #[.int .i64 self, .int .i64 nodes] w fun e w' => GotState w.heap.size self nodes e w' ∧ Below w.heap.size w w' := by
 have C := newRing_any nodes w
 unfold GotRing at C
 rw [newR_err] at C
 have H12 := jh (ja h1 h2)
 clear h1 h2
 by_cases hn : nodes < 1 ∨ 5 < nodes
 ·have HN := jh (show newS self nodes = none from by unfold newS; rw [if_pos (by omega)])
  rw [if_pos hn] at C
  clear hn
  go_enter Tryz.func17, Tryz.ntmps17
  go_wp2_with fail
  refine C.mono ?_
  clear C
  rintro e w1 ⟨⟨v, rfl, _⟩, hb1⟩
  go_wp2_with fail
  go_ret2
  exact ⟨by unfold GotState; rw [HN.out]; rfl, hb1⟩
 rw [if_neg hn] at C
 by_cases hs : self < 1 ∨ nodes < self
 ·have HN := jh (show newS self nodes = none from by unfold newS; rw [if_pos (by omega)])
  have hs' : self < 1 ∨ (decide (self < 1) = false ∧ nodes < self) := by
   by_cases h : self < 1
   ·exact .inl h
   ·exact .inr ⟨jd h, by omega⟩
  clear hn hs
  rcases hs' with h | ⟨h, h'⟩
  ·go_enter Tryz.func17, Tryz.ntmps17
   go_wp2_with fail
   refine C.mono ?_
   clear C
   rintro e w1 ⟨⟨v, rfl, _⟩, hb1⟩
   go_wp2_with fail
   go_ret2
   exact ⟨by unfold GotState; rw [HN.out]; rfl, hb1⟩
  ·go_enter Tryz.func17, Tryz.ntmps17
   go_wp2_with fail
   refine C.mono ?_
   clear C
   rintro e w1 ⟨⟨v, rfl, _⟩, hb1⟩
   go_wp2_with fail
   go_ret2
   exact ⟨by unfold GotState; rw [HN.out]; rfl, hb1⟩
 have HN := jh (show newS self nodes = some ⟨self, nodes, 0, 0, (newR nodes).1, [], [], [], [], [], []⟩ from by unfold newS; rw [if_neg (by omega)])
 have h3 : decide (self < 1) = false := jd (by omega)
 have h4 : decide (nodes < self) = false := jd (by omega)
 clear hn hs
 go_enter Tryz.func17, Tryz.ntmps17
 go_wp2_with fail
 refine C.mono ?_
 clear C
 rintro e w1 ⟨⟨v, rfl, ho⟩, hb1⟩
 have C2 := tnew_any w1
 have hlv := ho.lt
 obtain ⟨A, c, rfl, hc1, hc2⟩ := ho.form
 go_wp2_with fail
 refine C2.mono ?_
 clear C2
 rintro e w2 ⟨rfl, rfl⟩
 unfold ptrV
 go_wp2_with fail
 go_ret2
 have hz1 := hb1.size
 refine ⟨?_, (hb1.al _).al _⟩
 unfold GotState
 rw [HN.out]
 refine ⟨w1.heap.size + 1, by simp [ptrV], by omega, ⟨⟨.slice A (newR nodes).1.length c, w1.heap.size, .map none, .map none, .map none, .slice none 0 0, .slice none 0 0⟩, ?_, ?_⟩, ?_⟩
 ·exact Blk.new1 w1 _ 176 _
 ·have hk : Below w1.heap.size w1 ((w1.alloc (.cells #[.map none] 252)).alloc (.cells #[.int .i64 self, .int .i64 nodes, .int .i64 0, .int .i64 0, .slice A (newR nodes).1.length c, .pointer (some ⟨w1.heap.size, 0, none⟩), .map none, .map none, .map none, .slice none 0 0, .slice none 0 0] 176)) := ((jb _ _).al _).al _
  refine ⟨⟨H12.out.1, H12.out.2, show i64 0 from ⟨by omega, by omega⟩, show i64 0 from ⟨by omega, by omega⟩⟩, ⟨A, c, rfl, hc1, hc2, (ho.ext hk).row' range_plain (fun g hg => ⟨(hlv g hg).1, by have := (hlv g hg).2; omega⟩)⟩, ?_, MpAt.nil_, MpAt.nil_, MpAt.nil_, ⟨none, 0, rfl, Nat.le_refl _, by omega, Rep.Row.nil_⟩, ⟨none, 0, rfl, Nat.le_refl _, by omega, Rep.Row.nil_⟩⟩
  exact ((TabAt.new w1).ext ((jb _ _).al _)).mono (fun g hg => ⟨by omega, by omega⟩)
 ·exact (Blk.new1 w1 (.cells #[.map none] 252) 176 [.int .i64 self, .int .i64 nodes, .int .i64 0, .int .i64 0, .slice A (newR nodes).1.length c, .pointer (some ⟨w1.heap.size, 0, none⟩), .map none, .map none, .map none, .slice none 0 0, .slice none 0 0]).cell 6
theorem serves_any (g : Nat) (s : St) (n : Str) (P : Nat → Prop) (w : World) (h : StAt w P g s) (hl : s.ring.length ≤ 1000000) (hn : sfit n) : Calls Tryz.prog 111 #[ptrV g, .string n] w fun e w' => e = .returned (.bool (servesS s n)) ∧ Below w.heap.size w w' := by
 obtain ⟨v, hB, hI⟩ := h
 have b0 : w.cell? ⟨g, 0, none⟩ = some (.int .i64 s.self) := hB.cell 0
 have b4 : w.cell? ⟨g, 4, none⟩ = some v.ring := hB.cell 4
 obtain ⟨A, c, hv, _, _, hrow⟩ := hI.ring
 obtain rfl' : v.ring = .slice A s.ring.length c := by injection hv
 rw [rfl'] at b4
 have C := of_any A c s.ring n P w hrow hl hn
 have HB := jh hB
 have HV := jh (show servesS s n = ((ofR s.ring n).2 && decide ((ofR s.ring n).1.owner = s.self)) from rfl)
 unfold Found at C
 unfold ptrV
 clear hB hI hv rfl' hrow hn
 generalize hq : ofR s.ring n = q at *
 have HQ := jh hq
 clear hq
 obtain ⟨x, b⟩ := q
 go_enter Tryz.func111, Tryz.ntmps111
 go_upto_region 2 with (first
  | (refine C.mono ?_; rintro e w1 ⟨rfl, hb1⟩)
  | fail)
 clear b0 b4
 have hw2 := hb1.al (.cells #[.int .i64 x.first, .int .i64 x.last, .int .i64 x.owner, .int .i64 x.epoch] 27)
 have x2 := On.cell ((Blk.new w1 27 [.int .i64 x.first, .int .i64 x.last, .int .i64 x.owner, .int .i64 x.epoch]).cell 2)
 have b0 := On.cell ((HB.out.ext hw2).cell 0 : _ = some (.int .i64 s.self))
 generalize (w1.alloc (.cells #[.int .i64 x.first, .int .i64 x.last, .int .i64 x.owner, .int .i64 x.epoch] 27)) = w2 at *
 cases b
 ·refine wp_region_mix (.leaf [0, 1, 2, 3, 4, 5, 6, 7, 8, 9, 10]) (fun w' => ∃ d : Wd (On w2), w' = d.w) (by kernel_rfl) (by kernel_rfl) (fun _ _ d _ _ h => by cases d <;> exact h) (ClsW.mk (jb _ _).drew) ?_
  unfold wpMix; simp only [pick, j1, j2, j3, j4]
  (repeat (show wpQuiet _ _ _ _ (_ :: _) _; go_big_quiet_step (fail))); refine qn ?_
  go_wp2_with fail
  go_ret
  exact ⟨ret_bool (by rw [HV.out]; rfl), hw2.drew⟩
 ·by_cases ho : x.owner = s.self
  ·have HO := jh ho
   have g1 : (x.owner == s.self) = true := by rw [beq_iff_eq]; exact ho
   clear ho
   refine wp_region_mix (.leaf [0, 1, 2, 3, 4, 5, 6, 7, 8, 9, 10]) (fun w' => ∃ d : Wd (On w2), w' = d.w) (by kernel_rfl) (by kernel_rfl) (fun _ _ d _ _ h => by cases d <;> exact h) (ClsW.mk (jb _ _).drew) ?_
   unfold wpMix; simp only [pick, j1, j2, j3, j4]
   (repeat (show wpQuiet _ _ _ _ (_ :: _) _; go_big_quiet_step (fail))); refine qn ?_
   go_wp2_with fail
   go_ret
   exact ⟨ret_bool (by rw [HV.out]; simp [HO.out]), hw2.drew⟩
  ·have HO := jh ho
   have g1 : (x.owner == s.self) = false := by rw [beq_eq_false_iff_ne]; exact ho
   clear ho
   refine wp_region_mix (.leaf [0, 1, 2, 3, 4, 5, 6, 7, 8, 9, 10]) (fun w' => ∃ d : Wd (On w2), w' = d.w) (by kernel_rfl) (by kernel_rfl) (fun _ _ d _ _ h => by cases d <;> exact h) (ClsW.mk (jb _ _).drew) ?_
   unfold wpMix; simp only [pick, j1, j2, j3, j4]
   (repeat (show wpQuiet _ _ _ _ (_ :: _) _; go_big_quiet_step (fail))); refine qn ?_
   go_wp2_with fail
   go_ret
   exact ⟨ret_bool (by rw [HV.out]; simp [HO.out]), hw2.drew⟩
end Go.Proofs.YtcmjgghkmdbphaaGreatDoor
namespace Go.Proofs.YtcmjgghkmdbphaaGreatDoor
open Go.RowKit
def PutFair (l : List Stream) : Prop := l.length ≤ 40000 ∧ ∀ s ∈ l, s.events.length ≤ 40000 ∧ s.keys.length ≤ 40000
end Go.Proofs.YtcmjgghkmdbphaaGreatDoor
namespace Go.Proofs.YtcmjgghkmdbphaaGreatDoor
open Go.RowKit
attribute [local go_sem] Range.val
theorem TabAt.low {w : World} {P : Nat → Prop} {tb : Nat} {T : Tab} (h : TabAt w P tb T) : TabAt w (fun k => P k ∧ k < w.heap.size) tb T := by
 obtain ⟨hp, ⟨hb, he⟩ | ⟨m, TA, hb, hm, hA, he⟩⟩ := h
 ·exact ⟨⟨hp, hb.lt⟩, .inl ⟨hb, he⟩⟩
 ·refine ⟨⟨hp, hb.lt⟩, .inr ⟨m, TA, hb, ⟨hm, hA.map.lt⟩, ⟨hA.map, hA.nd, fun p hp => ?_, hA.apart⟩, he⟩⟩
  obtain ⟨h1, h2, h3, h4⟩ := hA.each p hp
  exact ⟨h1, h2, ⟨⟨h3.b, h1.blk.lt⟩, ⟨h3.km, h1.km.lt⟩, fun g hg => ⟨h3.ev g hg, (h1.ev.lt g hg).2⟩⟩, h4⟩
structure StRest (w : World) (P : Nat → Prop) (s : St) (v : SV) : Prop where
 fit : i64 s.self ∧ i64 s.nodes ∧ i64 s.life ∧ i64 s.ceiling
 ring : RangeR.sl.rep w P [v.ring] s.ring
 held : MpAt txE HeldR aggV w P v.held s.held
 outcomes : MpAt txE OutcomeR aggV w P v.outcomes s.outcomes
 decided : MpAt txE IntR oneV w P v.decided s.decided
 frozen : RecR.sl.rep w P [v.frozen] s.frozen
 log : EventR.sl.rep w P [v.log] s.log
section
variable {w w' : World} {P Q : Nat → Prop} {s : St} {v : SV}
theorem StIn.rest (h : StIn w P s v) : StRest w P s v := ⟨h.fit, h.ring, h.held, h.outcomes, h.decided, h.frozen, h.log⟩
theorem StRest.full (h : StRest w P s v) (ht : TabAt w P v.tb s.table) : StIn w P s v := ⟨h.fit, h.ring, ht, h.held, h.outcomes, h.decided, h.frozen, h.log⟩
theorem StRest.mono (h : StRest w P s v) (hs : ∀ g, P g → g < w.heap.size → Q g) : StRest w Q s v :=
 ⟨h.fit, RangeR.sl.mono h.ring hs, h.held.mono hs, h.outcomes.mono hs, h.decided.mono hs, RecR.sl.mono h.frozen hs, EventR.sl.mono h.log hs⟩
end
end Go.Proofs.YtcmjgghkmdbphaaGreatDoor
namespace Go.Proofs.YtcmjgghkmdbphaaGreatDoor
open Go.RowKit
theorem makeP_len (p : Put) (a b : Int) (st : Stamp) (ix : Int) : ∀ (d : List Str) (k n : Nat), (makeP p a b st ix d k n).length = d.length
 | [], _, _ => rfl
 | x :: d, k, n => by simp [makeP, makeP_len p a b st ix d]
end Go.Proofs.YtcmjgghkmdbphaaGreatDoor
namespace Go.Proofs.YtcmjgghkmdbphaaGreatDoor
open Go.RowKit
attribute [local go_sem] Range.val
def sumD (l : List Put) : Nat := (l.map fun p => p.data.length).sum
theorem makeF_sum : ∀ (l : List Put) (f : List Int) (st : Stamp) (ix : Int) (n : Nat), (makeF l f st ix n).length = sumD l
 | [], _, _, _, _ => rfl
 | p :: r, f, st, ix, n => by rw [makeF, List.length_append, makeP_len, makeF_sum r]; simp [sumD]
theorem StIn.low {w : World} {P : Nat → Prop} {s : St} {v : SV} (h : StIn w P s v) : StIn w (fun k => P k ∧ k < w.heap.size) s v := (h.rest.mono fun _ a b => ⟨a, b⟩).full h.table.low
structure StFair (s : St) : Prop where
 len : s.table.length ≤ 40000
 each : ∀ p ∈ s.table, p.2.events.length ≤ 40000 ∧ p.2.keys.length ≤ 40000
 put : PutFair (takeT s.table allHashes)
 log : s.log.length ≤ 40000
 vers : ∀ n, versionT (freshT s.table) n ≤ 39000
end Go.Proofs.YtcmjgghkmdbphaaGreatDoor
namespace Go.Proofs.YtcmjgghkmdbphaaGreatDoor
open Go.RowKit
theorem hashS_bd (s : Str) : 0 ≤ hashS s ∧ hashS s < 4294967296 := hash_bd s.data.toList
def evT (T : Tab) (n : Str) : List Event := match getA n T with | some s => s.events | none => []
def kyT (T : Tab) (n : Str) : List (Str × Known) := match getA n T with | some s => s.keys | none => []
theorem version_ev (T : Tab) (n : Str) : versionT T n = (evT T n).length := by
 unfold versionT evT; cases getA n T <;> rfl
theorem known_ky (T : Tab) (n k : Str) : knownT T n k = match getA k (kyT T n) with | some x => (x, true) | none => (zeroKnown, false) := by
 unfold knownT kyT; cases getA n T <;> rfl
theorem ts_getD (T : Tab) (n : Str) : (getA n T).getD ⟨[], []⟩ = ⟨evT T n, kyT T n⟩ := by
 unfold evT kyT; cases getA n T <;> rfl
theorem like_ev {T T' : Tab} (h : T.Like T') (n : Str) : evT T n = evT T' n := by
 have := h n
 unfold evT
 cases h1 : getA n T <;> cases h2 : getA n T' <;> rw [h1, h2] at this
 ·exact this.elim
 ·exact this.elim
 ·exact this.1
theorem evT_put (T : Tab) (n x : Str) (s : TS) : evT (putA n s T) x = if x = n then s.events else evT T x := by
 unfold evT; rw [getA_put]; by_cases h : x = n <;> simp [h]
theorem kyT_put (T : Tab) (n x : Str) (s : TS) : kyT (putA n s T) x = if x = n then s.keys else kyT T x := by
 unfold kyT; rw [getA_put]; by_cases h : x = n <;> simp [h]
theorem getA_addKey (k : Str) (e : Event) (m : List (Str × Known)) (x : Str) : getA x (addKey k e m) = if x = k ∧ getA k m = none ∧ k.toList ≠ [] then some ⟨k, e.version, e.stamp⟩ else getA x m := by
 unfold addKey
 by_cases h : (getA k m).isNone = true ∧ k.toList ≠ []
 ·rw [if_pos h, getA_put]
  by_cases hx : x = k
  ·rw [if_pos hx, if_pos ⟨hx, by simpa using h.1, h.2⟩]
  ·rw [if_neg hx, if_neg (fun q => hx q.1)]
 ·rw [if_neg h, if_neg (fun q => h ⟨by simp [q.2.1], q.2.2⟩)]
theorem addKey_nd {k : Str} {e : Event} {m : List (Str × Known)} (h : (m.map (·.1)).Nodup) : ((addKey k e m).map (·.1)).Nodup := by
 unfold addKey; split
 ·exact putA_nodup h
 ·exact h
theorem addKey_mem {k : Str} {e : Event} {m : List (Str × Known)} {p : Str × Known} (h : p ∈ addKey k e m) : p ∈ m ∨ (p = (k, ⟨k, e.version, e.stamp⟩) ∧ k.toList ≠ []) := by
 unfold addKey at h; split at h
 ·rename_i hc
  rcases putA_mem h with h | h | h
  ·exact .inr ⟨h, hc.2⟩
  ·exact .inl h.1
  ·exact .inl h
 ·exact .inl h
theorem getA_ok {T : Tab} (hT : T.Ok) {n : Str} {s : TS} (h : getA n T = some s) : s.Ok n := hT.each _ (getA_mem h)
theorem Tab.Ok.put {T : Tab} (hT : T.Ok) {n : Str} {s : TS} (h : s.Ok n) : Tab.Ok (putA n s T) := by
 refine ⟨putA_nodup hT.nd, fun p hp => ?_⟩
 rcases putA_mem hp with rfl | h' | h'
 ·exact h
 ·exact hT.each _ h'.1
 ·exact hT.each _ h'
theorem ev_ok {T : Tab} (hT : T.Ok) (n : Str) : (∀ e ∈ evT T n, okE n e = true) ∧ (∀ (j : Nat) (e : Event), (evT T n)[j]? = some e → e.version = j + 1) ∧ (∀ p ∈ kyT T n, p.2.key = p.1 ∧ knownB p.2 = true ∧ keyFit (evT T n) p.2) ∧ ((kyT T n).map (·.1)).Nodup := by
 unfold evT kyT
 cases h : getA n T with
 | none => simp
 | some s => have := getA_ok hT h; exact ⟨this.evs, this.goes, this.keys, this.nd⟩
theorem keyFit_app {ev l : List Event} {k : Known} (h : keyFit ev k) (h1 : 1 ≤ k.first) : keyFit (ev ++ l) k := by
 obtain ⟨h2, h3⟩ := h
 refine ⟨by rw [List.length_append]; omega, ?_⟩
 rw [← h3, List.map_append]
 have : (k.first - 1).toNat < (ev.map Event.stamp).length := by rw [List.length_map]; omega
 simp only [List.getD_eq_getElem?_getD]
 rw [List.getElem?_append_left this]
theorem append_spec {T : Tab} (hT : T.Ok) {k : Str} {e : Event} {l : List Event} (hk : keyB k = true) (ha : ∀ x ∈ e :: l, x.stream = e.stream ∧ x.stamp = e.stamp ∧ eventB x = true)
 (hg : ∀ (j : Nat) (x : Event), (e :: l)[j]? = some x → x.version = versionT T e.stream + 1 + j) :
 (appendT k (e :: l) T).2 = 0 ∧ (appendT k (e :: l) T).1.Ok ∧ (∀ n, evT (appendT k (e :: l) T).1 n = if n = e.stream then evT T n ++ (e :: l) else evT T n) ∧
 ∀ n, kyT (appendT k (e :: l) T).1 n = if n = e.stream then addKey k e (kyT T n) else kyT T n := by
 have h1 : alikeB (e :: l) = true := by
  unfold alikeB
  simp only [List.all_eq_true, Bool.and_eq_true, decide_eq_true_eq]
  exact ha
 have h2 : goesB (e :: l) (versionT T e.stream) = true := (goes_iff _ _).2 hg
 have he : appendT k (e :: l) T = (putA e.stream ⟨evT T e.stream ++ (e :: l), addKey k e (kyT T e.stream)⟩ T, 0) := by
  unfold appendT
  simp only [h1, hk, h2, ts_getD]
  simp
 rw [he]
 have hev := ev_ok hT e.stream
 have hb := eventB_iff.1 (ha e (by simp)).2.2
 have hve : e.version = versionT T e.stream + 1 := by have := hg 0 e rfl; simpa using this
 refine ⟨rfl, hT.put ⟨hb.1, by simp, ?_, ?_, ?_, addKey_nd hev.2.2.2⟩, fun n => ?_, fun n => ?_⟩
 ·intro x hx
  rcases List.mem_append.1 hx with hx | hx
  ·exact hev.1 x hx
  ·have := ha x hx
   unfold okE
   rw [this.2.2, this.1]; simp
 ·intro j x hx
  rw [List.getElem?_append] at hx
  split at hx
  ·exact hev.2.1 j x hx
  ·rename_i hj
   have := hg _ x hx
   rw [version_ev] at this
   omega
 ·intro p hp
  rcases addKey_mem hp with hp | ⟨rfl, hne⟩
  ·have := hev.2.2.1 p hp
   exact ⟨this.1, this.2.1, keyFit_app this.2.2 (knownB_iff.1 this.2.1).2.2.1⟩
  ·refine ⟨rfl, knownB_iff.2 ⟨by simpa using hne, hk, hb.2.1, hb.2.2.1, hb.2.2.2.2.2.1⟩, ?_, ?_⟩
   ·rw [version_ev] at hve; simp only [List.length_append, List.length_cons]; omega
   ·rw [version_ev] at hve
    have : (e.version - 1).toNat = (evT T e.stream).length := by omega
    simp only [this, List.getD_eq_getElem?_getD, List.getElem?_map]
    rw [List.getElem?_append_right (Nat.le_refl _)]
    simp
 ·rw [evT_put]
  by_cases h : n = e.stream <;> simp [h]
 ·rw [kyT_put]
  by_cases h : n = e.stream <;> simp [h]
structure PutOk (p : Put) : Prop where
 few : p.data.length ≤ 20
 data : ∀ s ∈ p.data, s.size ≤ 1000 ∧ validB s = true
 name : nameB p.stream = true
 full : p.data ≠ []
theorem Batch.Good.putOk {b : Batch} (h : b.Good) : ∀ p ∈ b.puts, PutOk p := fun p hp => by
 obtain ⟨⟨h1, h2⟩, h3, h4, h5, _⟩ := h.puts p hp
 exact ⟨h1, fun s hs => ⟨h2 s hs, by rw [h5] at hs; exact (List.mem_filter.1 hs).2⟩, h3, h4⟩
theorem metOf_zero {l : List Put} {n : Str} : metOf l n = 0 ↔ ∀ x ∈ l, x.stream ≠ n := by
 unfold metOf
 rw [List.length_eq_zero_iff, List.filter_eq_nil_iff]
 simp
theorem putsB_dist (l r : List Put) (h : putsB l r = true) : (r.map Put.stream).Nodup ∧ ∀ p ∈ r, ∀ x ∈ l, x.stream ≠ p.stream := by
 induction r generalizing l with
 | nil => simp
 | cons p r ih =>
   unfold putsB at h
   simp only [Bool.and_eq_true] at h
   obtain ⟨i1, i2⟩ := ih _ h.2
   have hm := metOf_zero.1 (putB_iff.1 h.1).2.1
   simp only [List.map_cons, List.nodup_cons, List.mem_map, not_exists, not_and]
   refine ⟨⟨fun x hx e => i2 x hx p (by simp) e.symm, i1⟩, fun q hq x hx => ?_⟩
   rcases List.mem_cons.1 hq with rfl | hq
   ·exact hm x hx
   ·exact i2 q hq x (by simp [hx])
theorem checkB_dist {b : Batch} (h : checkB b = 0) : (b.puts.map Put.stream).Nodup := by
 unfold checkB at h
 by_cases hm : mayB b = true
 ·unfold mayB at hm
  simp only [Bool.and_eq_true] at hm
  exact (putsB_dist _ _ hm.1).1
 ·rw [if_neg hm] at h; cases h
theorem makeP_at (p : Put) (a b : Int) (st : Stamp) (ix : Int) (d : List Str) (k n j : Nat) : (makeP p a b st ix d k n)[j]? = d[j]?.map fun x => ⟨p.stream, a + b * ((k + j : Nat) : Int), x, st, ix + ((n + j : Nat) : Int)⟩ := by
 induction d generalizing k n j with
 | nil => simp [makeP]
 | cons x d ih =>
   cases j with
   | zero => simp [makeP]
   | succ j =>
     simp only [makeP, List.getElem?_cons_succ, ih]
     rw [show k + 1 + j = k + (j + 1) by omega, show n + 1 + j = n + (j + 1) by omega]
theorem makeP_mem {p : Put} {a b : Int} {st : Stamp} {ix : Int} {d : List Str} {k n : Nat} {e : Event} (h : e ∈ makeP p a b st ix d k n) : ∃ j x, j < d.length ∧ d[j]? = some x ∧ e = ⟨p.stream, a + b * ((k + j : Nat) : Int), x, st, ix + ((n + j : Nat) : Int)⟩ := by
 obtain ⟨j, hj⟩ := List.getElem?_of_mem h
 rw [makeP_at] at hj
 obtain ⟨x, hx, rfl⟩ := Option.map_eq_some_iff.1 hj
 exact ⟨j, x, (List.getElem?_eq_some_iff.1 hx).1, hx, rfl⟩
theorem makeP_stream {p : Put} {a b : Int} {st : Stamp} {ix : Int} {d : List Str} {k n : Nat} {e : Event} (h : e ∈ makeP p a b st ix d k n) : e.stream = p.stream ∧ e.stamp = st := by
 obtain ⟨j, x, _, _, rfl⟩ := makeP_mem h; exact ⟨rfl, rfl⟩
theorem makeF_stream (l : List Put) (f : List Int) (st : Stamp) (ix : Int) (n : Nat) {e : Event} (h : e ∈ makeF l f st ix n) : (∃ p ∈ l, p.stream = e.stream) ∧ e.stamp = st := by
 induction l generalizing f n with
 | nil => cases h
 | cons p r ih =>
   unfold makeF at h
   rcases List.mem_append.1 h with h | h
   ·exact ⟨⟨p, by simp, (makeP_stream h).1.symm⟩, (makeP_stream h).2⟩
   ·obtain ⟨⟨q, hq, e1⟩, e2⟩ := ih _ _ h
    exact ⟨⟨q, by simp [hq], e1⟩, e2⟩
def firstsT (T : Tab) (l : List Put) : List Int := l.map fun p => versionT T p.stream + 1
def knowsT (T : Tab) (k : Str) (st : Stamp) (hit : Bool) (n x : Str) : Known × Bool := if x = k ∧ k.toList ≠ [] ∧ hit = true ∧ (knownT T n k).2 = false then (⟨k, versionT T n + 1, st⟩, true) else knownT T n x
theorem putP_spec {k : Str} {st : Stamp} (hk : keyB k = true) (hst : soundB st = true) : ∀ (l : List Put) (ix : Nat) (T : Tab), T.Ok → (l.map Put.stream).Nodup → (∀ p ∈ l, PutOk p) → (∀ n, versionT T n + 20 * l.length ≤ 1099511627000) → ix + sumD l ≤ 160 →
 (putP k l (makeF l (firstsT T l) st 0 ix) T).Ok ∧ (∀ n, evT (putP k l (makeF l (firstsT T l) st 0 ix) T) n = evT T n ++ (makeF l (firstsT T l) st 0 ix).filter fun e => decide (e.stream = n)) ∧
 ∀ n x, knownT (putP k l (makeF l (firstsT T l) st 0 ix) T) n x = knowsT T k st (l.any fun p => decide (p.stream = n)) n x
 | [], ix, T, hT, _, _, _, _ => by
   refine ⟨hT, fun n => by simp [putP, makeF], fun n x => ?_⟩
   unfold knowsT
   rw [if_neg (by simp)]; rfl
 | p :: r, ix, T, hT, hd, hp, hv, hs => by
   have hpo := hp p (by simp)
   simp only [List.map_cons, List.nodup_cons] at hd
   have hsd : sumD (p :: r) = p.data.length + sumD r := by simp [sumD]
   have hEq : makeF (p :: r) (firstsT T (p :: r)) st 0 ix = makeP p (versionT T p.stream + 1) 1 st 0 p.data 0 ix ++ makeF r (firstsT T r) st 0 (ix + p.data.length) := by
    rw [makeF]; rfl
   have hlen := makeP_len p (versionT T p.stream + 1) 1 st 0 p.data 0 ix
   have hM := @makeP_at p (versionT T p.stream + 1) 1 st 0 p.data 0 ix
   have hMm := fun e => @makeP_mem p (versionT T p.stream + 1) 1 st 0 p.data 0 ix e
   generalize hm : makeP p (versionT T p.stream + 1) 1 st 0 p.data 0 ix = m at hEq hlen hM hMm
   have hput : putP k (p :: r) (makeF (p :: r) (firstsT T (p :: r)) st 0 ix) T = putP k r (makeF r (firstsT T r) st 0 (ix + p.data.length)) (appendT k m T).1 := by
    rw [hEq]
    show putP k r ((m ++ _).drop p.data.length) (appendT k ((m ++ _).take p.data.length) T).1 = _
    rw [← hlen, List.drop_left, List.take_left]
   have hne : p.data.length ≠ 0 := fun e => hpo.full (List.length_eq_zero_iff.1 e)
   cases m with
   | nil => exact absurd hlen.symm (by simpa using hne)
   | cons e m =>
     have hst1 : ∀ x ∈ e :: m, x.stream = p.stream ∧ x.stamp = st ∧ eventB x = true := fun x hx => by
      obtain ⟨j, d, hj, hd2, rfl⟩ := hMm x hx
      have h1 := hv p.stream
      have h2 := (version_ev T p.stream)
      refine ⟨rfl, rfl, eventB_iff.2 ⟨hpo.name, ?_, ?_, (hpo.data d (List.mem_of_getElem? hd2)).1, (hpo.data d (List.mem_of_getElem? hd2)).2, hst, ?_, ?_⟩⟩ <;> (have := hpo.few; simp only []; omega)
     have he := hst1 e (by simp)
     obtain ⟨a1, a2, a3, a4⟩ := append_spec (k := k) (e := e) (l := m) hT hk (fun x hx => ⟨(hst1 x hx).1.trans he.1.symm, (hst1 x hx).2.1.trans he.2.1.symm, (hst1 x hx).2.2⟩) (fun j x hx => by
      rw [hM] at hx
      obtain ⟨d, _, rfl⟩ := Option.map_eq_some_iff.1 hx
      rw [he.1]; simp only []; omega)
     have hev1 : e.version = versionT T p.stream + 1 := by
      have := hM 0
      simp only [List.getElem?_cons_zero] at this
      obtain ⟨d, _, h⟩ := Option.map_eq_some_iff.1 this.symm
      rw [← h]; simp
     rw [he.1] at a3 a4
     have hvr : firstsT (appendT k (e :: m) T).1 r = firstsT T r := by
      unfold firstsT
      refine List.map_congr_left fun q hq => ?_
      rw [version_ev, version_ev, a3, if_neg]
      exact fun h => hd.1 (List.mem_map.2 ⟨q, hq, h⟩)
     have hkn : ∀ n x, knownT (appendT k (e :: m) T).1 n x = knowsT T k st (decide (p.stream = n)) n x := fun n x => by
      unfold knowsT
      simp only [known_ky]
      rw [a4]
      by_cases hn : n = p.stream
      ·subst hn
       simp only [if_true, decide_true, true_and]
       rw [getA_addKey]
       cases h1 : getA k (kyT T p.stream) with
       | none =>
         by_cases hx : x = k ∧ k.toList ≠ []
         ·rw [if_pos ⟨hx.1, rfl, hx.2⟩, if_pos ⟨hx.1, hx.2, rfl⟩, hev1, he.2.1]
         ·rw [if_neg (fun q => hx ⟨q.1, q.2.2⟩), if_neg (fun q => hx ⟨q.1, q.2.1⟩)]
       | some y =>
         rw [if_neg (fun q => by cases q.2.1), if_neg (fun q => by cases q.2.2)]
      ·rw [if_neg hn, if_neg (fun q => hn (of_decide_eq_true q.2.2.1).symm)]
     have hv1 : ∀ n, versionT (appendT k (e :: m) T).1 n + 20 * r.length ≤ 1099511627000 := fun n => by
      have h1 := hv n
      have h2 := hpo.few
      rw [version_ev] at h1 ⊢
      rw [List.length_cons] at h1
      rw [a3]; split
      ·rw [List.length_append]; omega
      ·omega
     obtain ⟨b1, b2, b3⟩ := putP_spec hk hst r (ix + p.data.length) (appendT k (e :: m) T).1 a2 hd.2 (fun q hq => hp q (by simp [hq])) hv1 (by omega)
     rw [hvr] at b1 b2 b3
     rw [hput]
     refine ⟨b1, fun n => ?_, fun n x => ?_⟩
     ·rw [b2, a3, hEq, List.filter_append]
      by_cases hn : n = p.stream
      ·rw [if_pos hn, show (e :: m).filter (fun e => decide (e.stream = n)) = e :: m from List.filter_eq_self.2 (fun x hx => by rw [(hst1 x hx).1, hn]; simp), List.append_assoc]
      ·rw [if_neg hn, show (e :: m).filter (fun e => decide (e.stream = n)) = [] from List.filter_eq_nil_iff.2 (fun x hx => by rw [(hst1 x hx).1]; simpa using fun h => hn h.symm), List.nil_append]
     ·rw [b3]
      simp only [List.any_cons]
      unfold knowsT
      simp only [hkn]
      unfold knowsT
      by_cases hn : p.stream = n
      ·have hno : (r.any fun q => decide (q.stream = n)) = false := by
        rw [List.any_eq_false]
        intro q hq
        simp only [decide_eq_true_eq]
        exact fun h => hd.1 (List.mem_map.2 ⟨q, hq, h.trans hn.symm⟩)
       simp [hn, hno]
      ·have hv2 : versionT (appendT k (e :: m) T).1 n = versionT T n := by rw [version_ev, version_ev, a3, if_neg (fun h => hn h.symm)]
       simp [hn, hv2]
end Go.Proofs.YtcmjgghkmdbphaaGreatDoor
namespace Go.Proofs.YtcmjgghkmdbphaaGreatDoor
open Go.RowKit
theorem idxI_spec {α : Type} (p : α → Bool) (l : List α) : (idxI p l = -1 ∧ ∀ a ∈ l, p a = false) ∨ ∃ a x b, l = a ++ x :: b ∧ (∀ y ∈ a, p y = false) ∧ p x = true ∧ idxI p l = a.length := by
 unfold idxI
 cases h : l.findIdx? p with
 | none => exact .inl ⟨rfl, by rw [List.findIdx?_eq_none_iff] at h; exact h⟩
 | some i =>
   right
   rw [List.findIdx?_eq_some_iff_getElem] at h
   obtain ⟨hi, hp, hb⟩ := h
   refine ⟨l.take i, l[i], l.drop (i + 1), ?_, ?_, hp, ?_⟩
   ·rw [← List.drop_eq_getElem_cons hi, List.take_append_drop]
   ·intro y hy
    obtain ⟨j, hj, rfl⟩ := List.getElem_of_mem hy
    rw [List.length_take] at hj
    rw [List.getElem_take]
    have := hb j (by omega)
    simpa using this
   ·rw [List.length_take]; simp only [Int.natCast_inj]; omega
theorem has_iff {r : Range} {h : Int} : r.has h = true ↔ r.first ≤ h ∧ h ≤ r.last := by
 simp only [Range.has, Bool.and_eq_true, decide_eq_true_eq]
theorem ownedB_iff {r : Range} : ownedB r = true ↔ 1 ≤ r.owner ∧ r.owner ≤ 5 ∧ 1 ≤ r.epoch ∧ r.epoch ≤ 1099511627776 := by
 simp only [ownedB, Bool.and_eq_true, decide_eq_true_eq]
theorem soundF_cons {r : Range} {l : List Range} {n m : Int} : soundFrom (r :: l) n = some m ↔ (r.first = n ∧ n ≤ r.last ∧ r.last ≤ 4294967295 ∧ ownedB r = true) ∧ soundFrom l (r.last + 1) = some m := by
 simp only [soundFrom]
 by_cases h : r.first = n ∧ n ≤ r.last ∧ r.last ≤ 4294967295 ∧ ownedB r = true
 ·rw [if_pos h]; simp [h]
 ·rw [if_neg h]
  constructor
  ·intro q; cases q
  ·intro q; exact (h q.1).elim
theorem soundFrom_app {a b : List Range} {n m : Int} : soundFrom (a ++ b) n = some m ↔ ∃ k, soundFrom a n = some k ∧ soundFrom b k = some m := by
 induction a generalizing n with
 | nil => simp [soundFrom]
 | cons r a ih =>
   rw [List.cons_append, soundF_cons, ih]
   constructor
   ·rintro ⟨h, k, h1, h2⟩; exact ⟨k, soundF_cons.2 ⟨h, h1⟩, h2⟩
   ·rintro ⟨k, h1, h2⟩; rw [soundF_cons] at h1; exact ⟨h1.1, k, h1.2, h2⟩
theorem soundFrom_le {l : List Range} {n m : Int} (h : soundFrom l n = some m) : n ≤ m := by
 induction l generalizing n with
 | nil => simp [soundFrom] at h; omega
 | cons r l ih => rw [soundF_cons] at h; have := ih h.2; omega
theorem soundFrom_mem {l : List Range} {n m : Int} (h : soundFrom l n = some m) {x : Range} (hx : x ∈ l) : n ≤ x.first ∧ x.first ≤ x.last ∧ x.last < m ∧ x.last ≤ 4294967295 ∧ ownedB x = true := by
 induction l generalizing n with
 | nil => cases hx
 | cons r l ih =>
   rw [soundF_cons] at h
   rcases List.mem_cons.1 hx with rfl | hx
   ·have := soundFrom_le h.2; exact ⟨by omega, by omega, by omega, by omega, h.1.2.2.2⟩
   ·have := ih h.2 hx; exact ⟨by omega, by omega, by omega, by omega, this.2.2.2.2⟩
theorem soundFrom_cover {l : List Range} {n m : Int} (h : soundFrom l n = some m) {k : Int} (h1 : n ≤ k) (h2 : k < m) : ∃ x ∈ l, x.has k = true := by
 induction l generalizing n with
 | nil => simp [soundFrom] at h; omega
 | cons r l ih =>
   rw [soundF_cons] at h
   by_cases hk : k ≤ r.last
   ·exact ⟨r, by simp, has_iff.2 ⟨by omega, hk⟩⟩
   ·obtain ⟨x, hx, h3⟩ := ih h.2 (by omega)
    exact ⟨x, by simp [hx], h3⟩
theorem soundFrom_uniq {l : List Range} {n m : Int} (h : soundFrom l n = some m) {x y : Range} (hx : x ∈ l) (hy : y ∈ l) {k : Int} (h1 : x.has k = true) (h2 : y.has k = true) : x = y := by
 rw [has_iff] at h1 h2
 induction l generalizing n with
 | nil => cases hx
 | cons r l ih =>
   rw [soundF_cons] at h
   rcases List.mem_cons.1 hx with ex | hx' <;> rcases List.mem_cons.1 hy with ey | hy'
   ·rw [ex, ey]
   ·have := soundFrom_mem h.2 hy'; subst ex; omega
   ·have := soundFrom_mem h.2 hx'; subst ey; omega
   ·exact ih h.2 hx' hy'
theorem sound_iff {l : List Range} : soundR l = true ↔ soundFrom l 0 = some 4294967296 ∧ l.length ≤ 64 := by
 simp only [soundR, Bool.and_eq_true, decide_eq_true_eq]
theorem at_spec {l : List Range} (hs : soundR l = true) {h : Int} (h0 : 0 ≤ h) (h1 : h < 4294967296) : ∃ a x b, l = a ++ x :: b ∧ x.has h = true ∧ atR l h = a.length ∧ findR l h = (x, true) := by
 obtain ⟨x, hx, hh⟩ := soundFrom_cover (sound_iff.1 hs).1 h0 h1
 have ha : atR l h = idxI (fun r => r.has h) l := by unfold atR; rw [if_pos hs]
 rcases idxI_spec (fun r : Range => r.has h) l with ⟨_, hn⟩ | ⟨a, y, b, hl, _, hy, hi⟩
 ·rw [hn x hx] at hh; cases hh
 ·refine ⟨a, y, b, hl, hy, by rw [ha, hi], ?_⟩
  unfold findR
  rw [ha, hi, if_neg (by omega), hl]
  simp
theorem find_eq {l : List Range} (hs : soundR l = true) {h : Int} (h0 : 0 ≤ h) (h1 : h < 4294967296) {x : Range} (hx : x ∈ l) (hh : x.has h = true) : findR l h = (x, true) := by
 obtain ⟨a, y, b, hl, hy, _, hf⟩ := at_spec hs h0 h1
 rw [hf, soundFrom_uniq (sound_iff.1 hs).1 hx (by rw [hl]; simp) hh hy]
theorem find_mem {l : List Range} {h : Int} (hf : (findR l h).2 = true) : (findR l h).1 ∈ l ∧ (findR l h).1.has h = true ∧ soundR l = true := by
 unfold findR at hf ⊢
 split at hf
 ·cases hf
 ·rename_i hn
  rw [if_neg hn]
  unfold atR at hn ⊢
  split at hn
  ·rename_i hs
   rw [if_pos hs]
   rcases idxI_spec (fun r : Range => r.has h) l with ⟨hi, _⟩ | ⟨a, y, b, hl, _, hy, hi⟩
   ·omega
   ·rw [hi]
    have hg : l.getD ((a.length : Int)).toNat zeroRange = y := by rw [hl]; simp
    simp only [hg]
    exact ⟨by rw [hl]; simp, hy, hs⟩
  ·omega
theorem at_nonneg {l : List Range} {h : Int} (hn : ¬ atR l h < 0) : ∃ a x b, l = a ++ x :: b ∧ x.has h = true ∧ atR l h = a.length ∧ soundR l = true := by
 unfold atR at hn ⊢
 split at hn
 ·rename_i hs
  rw [if_pos hs]
  rcases idxI_spec (fun r : Range => r.has h) l with ⟨hi, _⟩ | ⟨a, y, b, hl, _, hy, hi⟩
  ·omega
  ·exact ⟨a, y, b, hl, hy, hi, hs⟩
 ·omega
theorem split_spec {l : List Range} {h : Int} (hz : (splitR l h).2 = 0) : ∃ a x b, l = a ++ x :: b ∧ x.has h = true ∧ x.first ≠ h ∧ (splitR l h).1 = a ++ [{ x with last := h - 1, epoch := x.epoch + 1 }, { x with first := h, epoch := x.epoch + 1 }] ++ b ∧ soundR (splitR l h).1 = true ∧ soundR l = true := by
 by_cases hc : atR l h < 0 ∨ (l.getD (atR l h).toNat zeroRange).first = h ∨ (l.getD (atR l h).toNat zeroRange).epoch = 1099511627776
 ·unfold splitR at hz; simp only [if_pos hc] at hz; cases hz
 ·by_cases hc2 : 64 ≤ l.length
  ·unfold splitR at hz; simp only [if_neg hc, if_pos hc2] at hz; cases hz
  ·have he : splitR l h = (l.take (atR l h).toNat ++ ([{ l.getD (atR l h).toNat zeroRange with last := h - 1, epoch := (l.getD (atR l h).toNat zeroRange).epoch + 1 }, { l.getD (atR l h).toNat zeroRange with first := h, epoch := (l.getD (atR l h).toNat zeroRange).epoch + 1 }] ++ l.drop ((atR l h).toNat + 1)), 0) := by
    unfold splitR; simp only [if_neg hc, if_neg hc2]
   simp only [not_or] at hc
   obtain ⟨a, x, b, hl, hx, hi, hs⟩ := at_nonneg hc.1
   rw [he]
   rw [hi] at hc ⊢
   have hg : l.getD ((a.length : Int)).toNat zeroRange = x := by rw [hl]; simp
   rw [hg] at hc ⊢
   have ht : l.take (a.length : Int).toNat = a := by rw [hl]; simp
   have hd : l.drop ((a.length : Int).toNat + 1) = b := by rw [hl]; simp
   rw [ht, hd]
   have hS := sound_iff.1 hs
   refine ⟨a, x, b, hl, hx, hc.2.1, by simp, ?_, hs⟩
   rw [sound_iff]
   obtain ⟨h1, h2⟩ := hS
   rw [hl] at h1 hc2
   rw [soundFrom_app] at h1
   obtain ⟨k, h3, h4⟩ := h1
   rw [soundF_cons] at h4
   rw [has_iff] at hx
   have ho := ownedB_iff.1 h4.1.2.2.2
   refine ⟨soundFrom_app.2 ⟨k, h3, ?_⟩, by simp at hc2 ⊢; omega⟩
   show soundFrom (_ :: _ :: b) k = _
   rw [soundF_cons, soundF_cons]
   refine ⟨⟨h4.1.1, ?_, ?_, ownedB_iff.2 ⟨ho.1, ho.2.1, ?_, ?_⟩⟩, ⟨?_, ?_, h4.1.2.2.1, ownedB_iff.2 ⟨ho.1, ho.2.1, ?_, ?_⟩⟩, h4.2⟩ <;> simp only [] <;> omega
theorem set_spec {l : List Range} {r : Range} (hz : (setR l r).2 = 0) : ∃ a x b, l = a ++ x :: b ∧ x.first = r.first ∧ x.last = r.last ∧ (setR l r).1 = a ++ r :: b ∧ soundR (setR l r).1 = true ∧ soundR l = true ∧ ownedB r = true := by
 unfold setR at hz ⊢
 by_cases hs : soundR l = false
 ·simp only [hs] at hz; simp at hz
 ·simp only [if_neg hs] at hz ⊢
  by_cases hc : atR l r.first < 0 ∨ (l.getD (atR l r.first).toNat zeroRange).first ≠ r.first ∨ (l.getD (atR l r.first).toNat zeroRange).last ≠ r.last
  ·simp only [if_pos hc] at hz; cases hz
  ·simp only [if_neg hc] at hz ⊢
   by_cases ho : ownedB r = false
   ·simp only [if_pos ho] at hz; cases hz
   ·simp only [if_neg ho] at hz ⊢
    simp only [not_or, Decidable.not_not] at hc
    obtain ⟨a, x, b, hl, hx, hi, hs'⟩ := at_nonneg hc.1
    rw [hi] at hc ⊢
    have hg : l.getD ((a.length : Int)).toNat zeroRange = x := by rw [hl]; simp
    rw [hg] at hc
    have hset : l.set (a.length : Int).toNat r = a ++ r :: b := by rw [hl]; simp
    rw [hset]
    refine ⟨a, x, b, hl, hc.2.1, hc.2.2, rfl, ?_, hs', by simpa using ho⟩
    obtain ⟨h1, h2⟩ := sound_iff.1 hs'
    rw [hl] at h1 h2
    rw [soundFrom_app] at h1
    obtain ⟨k, h3, h4⟩ := h1
    rw [soundF_cons] at h4
    rw [sound_iff]
    refine ⟨soundFrom_app.2 ⟨k, h3, soundF_cons.2 ⟨⟨by omega, by omega, by omega, by simpa using ho⟩, ?_⟩⟩, by simpa using h2⟩
    rw [← hc.2.2]; exact h4.2
def posR (r : Range) (n : Int) : Int := if r.first < n then max n (r.last + 1) else n
theorem around_sound {r : Range} (hr : r.first ≤ r.last) (hm : r.last ≤ 4294967295) (ho : ownedB r = true) : ∀ (l : List Range) (n m : Int), soundFrom l n = some m → soundFrom (aroundR l r) (posR r n) = some (posR r m)
 | [], n, m, h => by simp [soundFrom] at h; subst h; rfl
 | x :: l, n, m, h => by
   rw [soundF_cons] at h
   obtain ⟨⟨h1, h2, h3, h4⟩, h5⟩ := h
   have ih := around_sound hr hm ho l _ _ h5
   have hxo : ∀ a b, ownedB { x with first := a, last := b } = true := fun a b => h4
   show soundFrom (aroundX r x ++ aroundR l r) _ = _
   rw [soundFrom_app]
   refine ⟨posR r (x.last + 1), ?_, ih⟩
   unfold aroundX posR
   dsimp only
   by_cases c1 : r.first < n
   ·rw [if_pos c1, if_neg (show ¬ x.first ≤ min x.last (r.first - 1) by omega), if_neg (show ¬ (x.first ≤ r.first ∧ r.first ≤ x.last) by omega), if_pos (show r.first < x.last + 1 by omega)]
    simp only [List.nil_append]
    by_cases c2 : max x.first (r.last + 1) ≤ x.last
    ·rw [if_pos c2, soundF_cons]
     exact ⟨⟨by show max x.first _ = _; omega, by show _ ≤ x.last; omega, h3, h4⟩, by simp only [soundFrom, Option.some.injEq]; omega⟩
    ·rw [if_neg c2]; simp only [soundFrom, Option.some.injEq]; omega
   ·rw [if_neg c1]
    by_cases c2 : r.first ≤ x.last
    ·rw [if_pos (by omega : r.first < x.last + 1), if_pos (⟨by omega, c2⟩ : x.first ≤ r.first ∧ r.first ≤ x.last)]
     have hmid : ∀ q, soundFrom q (r.last + 1) = some (max (x.last + 1) (r.last + 1)) → soundFrom ([r] ++ q) r.first = some (max (x.last + 1) (r.last + 1)) := fun q hq => by
      show soundFrom (r :: q) _ = _
      rw [soundF_cons]; exact ⟨⟨rfl, hr, hm, ho⟩, hq⟩
     have hhigh : soundFrom (if max x.first (r.last + 1) ≤ x.last then [{ x with first := max x.first (r.last + 1) }] else []) (r.last + 1) = some (max (x.last + 1) (r.last + 1)) := by
      by_cases c3 : max x.first (r.last + 1) ≤ x.last
      ·rw [if_pos c3, soundF_cons]
       exact ⟨⟨by show max x.first _ = _; omega, by show _ ≤ x.last; omega, h3, h4⟩, by simp only [soundFrom, Option.some.injEq]; omega⟩
      ·rw [if_neg c3]; simp only [soundFrom, Option.some.injEq]; omega
     by_cases c3 : x.first ≤ min x.last (r.first - 1)
     ·rw [if_pos c3]
      show soundFrom (_ :: ([r] ++ _)) n = _
      rw [soundF_cons]
      refine ⟨⟨h1, by show n ≤ min x.last _; omega, by show min x.last _ ≤ _; omega, h4⟩, ?_⟩
      rw [show (min x.last (r.first - 1)) + 1 = r.first by omega]
      exact hmid _ hhigh
     ·rw [if_neg c3, List.nil_append, show n = r.first by omega]
      exact hmid _ hhigh
    ·rw [if_neg (by omega : ¬ r.first < x.last + 1), if_pos (by omega : x.first ≤ min x.last (r.first - 1)), if_neg (fun q : x.first ≤ r.first ∧ r.first ≤ x.last => c2 q.2), if_neg (show ¬ max x.first (r.last + 1) ≤ x.last by omega)]
     show soundFrom (_ :: []) n = _
     rw [soundF_cons]
     exact ⟨⟨h1, by show n ≤ min x.last _; omega, by show min x.last _ ≤ _; omega, h4⟩, by simp only [soundFrom, Option.some.injEq]; show min x.last _ + 1 = _; omega⟩
theorem around_ok {l : List Range} {r : Range} (hs : soundR l = true) (h0 : 0 ≤ r.first) (hr : r.first ≤ r.last) (hm : r.last ≤ 4294967295) (ho : ownedB r = true) (hl : (aroundR l r).length ≤ 64) : soundR (aroundR l r) = true := by
 rw [sound_iff]
 have := around_sound hr hm ho l _ _ (sound_iff.1 hs).1
 rw [show posR r 0 = 0 by unfold posR; rw [if_neg (by omega)], show posR r 4294967296 = 4294967296 by unfold posR; rw [if_pos (by omega)]; omega] at this
 exact ⟨this, hl⟩
theorem around_out {l : List Range} {r x : Range} {h : Int} (hx : x ∈ l) (hh : x.has h = true) (hr : r.has h = false) : ∃ y ∈ aroundR l r, y.has h = true ∧ y.owner = x.owner ∧ y.epoch = x.epoch := by
 have hn : ¬ (r.first ≤ h ∧ h ≤ r.last) := fun q => by rw [has_iff.2 q] at hr; cases hr
 rw [has_iff] at hh
 have hin : ∀ y, y ∈ aroundX r x → y ∈ aroundR l r := fun y hy => List.mem_flatMap.2 ⟨x, hx, hy⟩
 by_cases c : h < r.first
 ·refine ⟨{ x with last := min x.last (r.first - 1) }, hin _ ?_, has_iff.2 ⟨hh.1, by show h ≤ min _ _; omega⟩, rfl, rfl⟩
  unfold aroundX
  simp only [List.mem_append]
  left
  rw [if_pos (by omega)]
  simp
 ·refine ⟨{ x with first := max x.first (r.last + 1) }, hin _ ?_, has_iff.2 ⟨by show max _ _ ≤ h; omega, hh.2⟩, rfl, rfl⟩
  unfold aroundX
  simp only [List.mem_append]
  right; right
  rw [if_pos (by omega)]
  simp
end Go.Proofs.YtcmjgghkmdbphaaGreatDoor
namespace Go.Proofs.YtcmjgghkmdbphaaGreatDoor
open Go.RowKit
theorem rsound_any (A : Option Addr) (c : Nat) (l : List Range) (P : Nat → Prop) (w : World) (hr : RangeR.Row w P A l) (hs : soundR l = true) :
 Calls Tryz.prog 241 #[.slice A l.length c] w fun e w' => e = .returned (.bool true) ∧ Below w.heap.size w w' := by
 have HR := jh hr; clear hr
 have HL := jh (sound_iff.1 hs); clear hs
 go_enter Tryz.func241, Tryz.ntmps241
 go_wp2_with fail
 go_loopw [3, 4] (fun nx i wr => ∃ (k : Nat) (n : Int), k ≤ l.length ∧ i = .int .i64 k ∧ nx = .int .i64 n ∧ 0 ≤ n ∧ soundFrom (l.drop k) n = some 4294967296 ∧ Below w.heap.size w wr) (fun _ i _ => l.length - (intOf i).toNat)
 case atStart => exact ⟨0, 0, Nat.zero_le _, rfl, rfl, by omega, HL.out.1, jb _ _⟩
 case round =>
  obtain ⟨k, n, hk, rfl, rfl, hn0, hs, hbl⟩ := hrel
  have HS := jh hs; clear hs
  by_cases hlt : k < l.length
  ·have hlk := jg hlt
   have hd := soundFrom_drop l k n hlt
   generalize l[k] = x at hlk hd
   obtain ⟨b, o, cs, rfl, hP, hbw, hrep, hcs⟩ := (HR.out.ext hbl).at_ hlk
   obtain ⟨rfl, hf⟩ := range_rep.1 hrep
   have hok : (x.first = n ∧ n ≤ x.last ∧ x.last ≤ 4294967295 ∧ ownedB x = true) ∧ soundFrom (l.drop (k + 1)) (x.last + 1) = some 4294967296 := by
    have h1 := HS.out
    rw [hd] at h1
    split at h1
    ·rename_i h2; exact ⟨h2, h1⟩
    ·cases h1
   obtain ⟨⟨h1, h2, h3, h4⟩, h5⟩ := hok
   obtain ⟨h6, h7, h8, h9⟩ := ownedB_iff.1 h4
   subst h1
   have HD := jh (ja (show 0 ≤ x.last + 1 by omega) (ja h3 h5))
   have c0 := hcs 0 _ rfl; have c1 := hcs 1 _ rfl; have c2 := hcs 2 _ rfl; have c3 := hcs 3 _ rfl; simp only [RangeR_size, Nat.add_zero] at c0 c1 c2 c3
   clear hd hcs hrep hlk h4 h5
   have hlt' : (k : Int) < l.length := by omega
   have hbx := (jb wr.heap.size wr).al (.cells #[.int .i64 x.first, .int .i64 x.last, .int .i64 x.owner, .int .i64 x.epoch] 27)
   have hWK : Hid (wrap64 ((k : Int) + 1) = ((k + 1 : Nat) : Int)) := jh (by have := HL.out.2; rw [wrap_in _ (by omega)]; rfl)
   have hxw : Hid (wrap64 (x.last + 1) = x.last + 1) := jh (wrap_in _ (by have := hf; omega))
   have g2 : decide (x.last < x.first) = false := jd (by omega)
   have g3 : decide (4294967295 < x.last) = false := jd (by omega)
   have g4 : decide (x.owner < 1) = false := jd (by omega)
   have g5 : decide (5 < x.owner) = false := jd (by omega)
   have g6 : decide (x.epoch < 1) = false := jd (by omega)
   have g7 : decide (1099511627776 < x.epoch) = false := jd (by omega)
   clear h2 h3 h6 h7 h8 h9
   go_wp2_with fail
   go_round
   case rel =>
    exact ⟨k + 1, x.last + 1, by omega, by rw [hWK.out], by rw [hxw.out], HD.out.1, HD.out.2.2, hbl.tr hbx⟩
   case measure => rw [hWK.out]; simp [intOf]; omega
  ·have hkn : k = l.length := by omega
   subst hkn
   have hs := HS.out
   rw [List.drop_length] at hs
   have hn1 : n = 4294967296 := by injection hs
   clear hs
   subst hn1
   have h64' : (l.length : Int) ≤ 64 := by have := HL.out.2; omega
   go_wp2_with fail
   go_ret
   exact ⟨rfl, hbl⟩
theorem rfind_any (A : Option Addr) (c : Nat) (l : List Range) (h : Int) (P : Nat → Prop) (w : World) (hr : RangeR.Row w P A l) (hs : soundR l = true) (h0 : 0 ≤ h) (h1 : h < 4294967296) :
 Calls Tryz.prog 162 #[.slice A l.length c, .int .i64 h] w fun e w' => e = .returned (Found (findR l h).1 (findR l h).2) ∧ Below w.heap.size w w' := by
 have hb0 := (jb w.heap.size w).al (.cells #[.int .i64 0, .int .i64 0, .int .i64 0, .int .i64 0] 27)
 have B0 := Blk.new w 27 [.int .i64 0, .int .i64 0, .int .i64 0, .int .i64 0]
 have CS := rsound_any A c l P (w.alloc (.cells #[.int .i64 0, .int .i64 0, .int .i64 0, .int .i64 0] 27)) (hr.ext hb0) hs
 have HR := jh (hr.mono (Q := fun g => g < w.heap.size) fun g _ h => h); clear hr
 have HS := jh (ja hs (ja h0 h1)); clear hs h0 h1
 go_enter Tryz.func162, Tryz.ntmps162
 go_wp2_with fail
 refine CS.mono ?_
 clear CS
 rintro e w1 ⟨rfl, hb1⟩
 have H1 := jh (ja (hb0.tr hb1) (B0.ext hb1))
 clear B0 hb0 hb1
 go_wp2_with fail
 go_loopw [6] (fun i wr => ∃ k : Nat, k ≤ l.length ∧ i = .int .i64 k ∧ (∀ x ∈ l.take k, x.has h = false) ∧ Below w.heap.size w wr ∧ Blk wr w.heap.size 27 [.int .i64 0, .int .i64 0, .int .i64 0, .int .i64 0]) (fun i _ => l.length - (intOf i).toNat)
 case atStart => exact ⟨0, Nat.zero_le _, rfl, by simp, H1.out.1, H1.out.2⟩
 case round =>
  obtain ⟨k, hk, rfl, hno, hw1, B1⟩ := hrel
  have HNO := jh hno; clear hno
  by_cases hlt : k < l.length
  ·have hlk := jg hlt
   have hmem : l[k] ∈ l := List.getElem_mem hlt
   have htk : l.take (k + 1) = l.take k ++ [l[k]] := (List.take_append_getElem hlt).symm
   generalize l[k] = x at hlk hmem htk
   obtain ⟨b, o, cs, rfl, hP, hbw, hrep, hcs⟩ := (HR.out.ext hw1).at_ hlk
   obtain ⟨rfl, hf⟩ := range_rep.1 hrep
   have c0 := hcs 0 _ rfl; have c1 := hcs 1 _ rfl; have c2 := hcs 2 _ rfl; have c3 := hcs 3 _ rfl; simp only [RangeR_size, Nat.add_zero] at c0 c1 c2 c3
   have HB := jh B1
   have HM := jh (ja hmem htk)
   have hWK : Hid (wrap64 ((k : Int) + 1) = ((k + 1 : Nat) : Int)) := jh (by have := (sound_iff.1 HS.out.1).2; rw [wrap_in _ (by omega)]; rfl)
   clear hrep hcs hlk hmem htk
   have hlt' : (k : Int) < l.length := by omega
   have hne : b ≠ w.heap.size := by omega
   have hcase : (x.first ≤ h ∧ h ≤ x.last) ∨ (x.first ≤ h ∧ ¬ h ≤ x.last) ∨ ¬ x.first ≤ h := by omega
   rcases hcase with ⟨g1, g2⟩ | ⟨g1, g2⟩ | g1
   ·have HF := jh (find_eq HS.out.1 HS.out.2.1 HS.out.2.2 HM.out.1 (has_iff.2 ⟨g1, g2⟩))
    have f0 := B1.frozen 0
    have f1 := B1.frozen 1
    have f2 := B1.frozen 2
    have f3 := B1.frozen 3
    have b0 := B1.cell 0
    have b1 := B1.cell 1
    have b2 := B1.cell 2
    have b3 := B1.cell 3
    simp only [List.getElem?_cons_zero, List.getElem?_cons_succ] at b0 b1 b2 b3
    clear B1
    go_wp2_with fail
    rw [HF.out]
    exact bodyPost_ret (results_blk_tmp rfl _ ((((HB.out.set_ 0 (.int .i64 x.first)).set_ 1 (.int .i64 x.last)).set_ 2 (.int .i64 x.owner)).set_ 3 (.int .i64 x.epoch)) rfl Tryz.underlying27 rfl (by kernel_rfl)) rfl ⟨rfl, (((hw1.st (Nat.le_refl _) _).st (Nat.le_refl _) _).st (Nat.le_refl _) _).st (Nat.le_refl _) _⟩
   ·have g2' : decide (h ≤ x.last) = false := jd g2
    have HX := jh (show x.has h = false from by rw [← Bool.not_eq_true, has_iff]; exact fun a => g2 a.2)
    clear g2
    go_wp2_with fail
    go_round
    case rel =>
     refine ⟨k + 1, by omega, by rw [hWK.out], ?_, hw1, HB.out⟩
     rw [HM.out.2]
     intro y hy
     rcases List.mem_append.1 hy with hy | hy
     ·exact HNO.out y hy
     ·rw [List.mem_singleton.1 hy]; exact HX.out
    case measure => rw [hWK.out]; simp [intOf]; omega
   ·have g1' : decide (x.first ≤ h) = false := jd g1
    have HX := jh (show x.has h = false from by rw [← Bool.not_eq_true, has_iff]; exact fun a => g1 a.1)
    clear g1
    go_wp2_with fail
    go_round
    case rel =>
     refine ⟨k + 1, by omega, by rw [hWK.out], ?_, hw1, HB.out⟩
     rw [HM.out.2]
     intro y hy
     rcases List.mem_append.1 hy with hy | hy
     ·exact HNO.out y hy
     ·rw [List.mem_singleton.1 hy]; exact HX.out
    case measure => rw [hWK.out]; simp [intOf]; omega
  ·exfalso
   have hkn : k = l.length := by omega
   subst hkn
   obtain ⟨x, hx, hh⟩ := soundFrom_cover (sound_iff.1 HS.out.1).1 HS.out.2.1 HS.out.2.2
   have := HNO.out x (by rw [List.take_length]; exact hx)
   rw [hh] at this; cases this
end Go.Proofs.YtcmjgghkmdbphaaGreatDoor
namespace Go.Proofs.YtcmjgghkmdbphaaGreatDoor
open Go.RowKit Go.ChangeMaps
section
variable {κ : Type} {enc : κ → Value} {w : World} {m it : Nat} {ps left : List (κ × Value)} {F : Fence} {n : Nat} {P : Program}
variable {ops : Array Oper} {rest : List Oper} {o : Oper} {a : Act} {Q : Exit → Act → World → Prop}
theorem wpListIn_range_map (hg : o.guard = none) (mo : Operand) (t : TypeId) (hop : o.op = Op.range t mo) {kt e : TypeId} (ht : P.underlying t = some (.map kt e)) (hm : a.eval mo = .map (some m)) (h : MapAt enc w m ps)
 (hK : ∀ w', IterAt enc w' w.heap.size m ps → Below w.heap.size w w' → w'.heap.size = w.heap.size + 1 → wpListIn F n P ops Q rest (a.put o.dst (.pointer (some ⟨w.heap.size, 0, none⟩))) w') : wpListIn F n P ops Q (o :: rest) a w := by
 refine wpListIn_plain hg fun K' hK' => ?_
 obtain ⟨w', hrun, r1, r2, r3⟩ := run_range_at (P := P) ht h
 unfold Oper.wpIn
 refine ⟨?_, ?_⟩
 ·simp [Oper.about, hop]
 ·rw [Oper.semAt_plain F _ _ (by rw [hop]; intro c hc'; cases hc')]
  simp [execOp, hop, hm, hrun, Result.andThen]
  exact hK' _ _ (hK w' r1 r2 r3)
theorem wpListIn_next_map (hg : o.guard = none) (ito : Operand) (hop : o.op = Op.next ito false) (hit : a.eval ito = .pointer (some ⟨it, 0, none⟩)) (h : IterAt enc w it m left)
 (hDone : left = [] → wpListIn F n P ops Q rest (a.put o.dst (.tuple #[.bool false])) w)
 (hMore : ∀ (i : Nat) (p : κ × Value) (w' : World), left[i]? = some p → IterAt enc w' it m (left.eraseIdx i) → Only (· = it) w w' → w'.heap.size = w.heap.size →
  (∀ w'', w''.heap[m]? = w'.heap[m]? → w''.heap[it]? = w'.heap[it]? → (Instr.entry (.pointer (some ⟨it, 0, none⟩))).run P w'' = .ok (.tuple #[enc p.1, p.2]) w'') → wpListIn F n P ops Q rest (a.put o.dst (.tuple #[.bool true, enc p.1, p.2])) w') : wpListIn F n P ops Q (o :: rest) a w := by
 refine wpListIn_plain hg fun K' hK' => ?_
 unfold Oper.wpIn
 refine ⟨by simp [Oper.about, hop], ?_⟩
 rw [Oper.semAt_plain F _ _ (by rw [hop]; intro c hc'; cases hc')]
 rcases run_next_iter (P := P) o.type h with ⟨h0, hrun⟩ | ⟨i, p, w', hp, hrun, r1, r2, r3, r4⟩
 ·simp [execOp, hop, hit, hrun, Result.andThen]
  exact hK' _ _ (hDone h0)
 ·simp [execOp, hop, hit, hrun, Result.andThen]
  exact hK' _ _ (hMore i p w' hp r1 r2 r3 r4)
theorem wpListIn_range_nil (hg : o.guard = none) (mo : Operand) (t : TypeId) (hop : o.op = Op.range t mo) {kt e : TypeId} (ht : P.underlying t = some (.map kt e)) (hm : a.eval mo = .map none)
 (hK : ∀ w', IterNil w' w.heap.size → Below w.heap.size w w' → w'.heap.size = w.heap.size + 1 → wpListIn F n P ops Q rest (a.put o.dst (.pointer (some ⟨w.heap.size, 0, none⟩))) w') : wpListIn F n P ops Q (o :: rest) a w := by
 refine wpListIn_plain hg fun K' hK' => ?_
 have hrun := run_range_nilMap (P := P) w t kt e ht
 unfold Oper.wpIn
 refine ⟨by simp [Oper.about, hop], ?_⟩
 rw [Oper.semAt_plain F _ _ (by rw [hop]; intro c hc'; cases hc')]
 simp [execOp, hop, hm, hrun, Result.andThen]
 exact hK' _ _ (hK _ ⟨_, _, _, heap_alloc_new w _⟩ ((jb _ _).al _) (by simp))
theorem wpListIn_next_nil (hg : o.guard = none) (ito : Operand) (hop : o.op = Op.next ito false) (hit : a.eval ito = .pointer (some ⟨it, 0, none⟩)) (h : IterNil w it)
 (hDone : wpListIn F n P ops Q rest (a.put o.dst (.tuple #[.bool false])) w) : wpListIn F n P ops Q (o :: rest) a w := by
 refine wpListIn_plain hg fun K' hK' => ?_
 obtain ⟨x, s, b, h⟩ := h
 have hrun : (Instr.next (.pointer (some ⟨it, 0, none⟩)) false o.type).run P w = .ok (.tuple #[.bool false]) w := by
  simp only [Instr.next, getObj, Sem.run_bind, Sem.run, h, Result.andThen]
  rfl
 unfold Oper.wpIn
 refine ⟨by simp [Oper.about, hop], ?_⟩
 rw [Oper.semAt_plain F _ _ (by rw [hop]; intro c hc'; cases hc')]
 simp [execOp, hop, hit, hrun, Result.andThen]
 exact hK' _ _ hDone
end
end Go.Proofs.YtcmjgghkmdbphaaGreatDoor
