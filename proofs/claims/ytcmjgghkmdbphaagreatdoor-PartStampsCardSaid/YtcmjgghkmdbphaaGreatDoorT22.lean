/- The reference's new ring, new state, new clock; the ring at a text. part's law: fresh. part's law: awake. PartOnce: what is computed. PartStamps: what is told is greater. state.Apply for any record, in one. PartStamps: where it lies. A struct out of a row, read among a drawn region's heads. -/
import Derived.Test.YtcmjgghkmdbphaaGreatDoorT19
import Derived.Test.YtcmjgghkmdbphaaGreatDoorT11
import Derived.Test.YtcmjgghkmdbphaaGreatDoorT21
import Derived.Test.YtcmjgghkmdbphaaGreatDoorT18
import Derived.Test.YtcmjgghkmdbphaaGreatDoorT16
import Derived.Test.YtcmjgghkmdbphaaGreatDoorT17
import Derived.Test.YtcmjgghkmdbphaaGreatDoorT05
import Derived.Test.YtcmjgghkmdbphaaGreatDoorT09
import Derived.Shelf.Spec.SlicesGrow
import Derived.Ground.Names8Prog
import Derived.Test.YtcmjgghkmdbphaaGreatDoorProg
import Derived.Test.YtcmjgghkmdbphaaGreatDoorT02
import Derived.Test.YtcmjgghkmdbphaaGreatDoorT01
import Derived.Test.YtcmjgghkmdbphaaGreatDoorT08
import Derived.Laws.AppendOwn
import Derived.Test.YtcmjgghkmdbphaaGreatDoorT12
import Derived.Test.YtcmjgghkmdbphaaGreatDoorT03
import Derived.Test.YtcmjgghkmdbphaaGreatDoorT14
import Derived.Test.YtcmjgghkmdbphaaGreatDoorT13
import Derived.Deep.AppendSrc
import Derived.Test.YtcmjgghkmdbphaaGreatDoorT20
set_option maxRecDepth 20000
set_option maxHeartbeats 25600000
namespace Go.Proofs.YtcmjgghkmdbphaaGreatDoor
open Go.RowKit
theorem rNewRing_any (N : Nat) (w : World) (hN : 1 ≤ N ∧ N ≤ 5) : Calls Tryz.prog 85 #[.int .i64 N] w fun e w' => GotRing w.heap.size N e w' ∧ Below w.heap.size w w' := by
 have HE := jh (show newR N = ((List.range N).map (newRange N), 0) from by unfold newR; rw [if_neg (by omega)]; rfl)
 have h1 : decide ((N : Int) < 1) = false := jd (by omega)
 have h2 : decide ((5 : Int) < (N : Int)) = false := jd (by omega)
 obtain ⟨N1, N2⟩ := hN
 go_enter Tryz.func85, Tryz.ntmps85
 go_wp2_with fail
 go_loopw [4, 5] (fun out i wr => ∃ k : Nat, k ≤ N ∧ i = .int .i64 (k + 1 : Nat) ∧ RangeR.Own wr w.heap.size 27 (fun _ => True) out ((List.range k).map (newRange N)) ∧ Below w.heap.size w wr) (fun _ i _ => N + 1 - (intOf i).toNat)
 case atStart => exact ⟨0, Nat.zero_le _, rfl, by simpa using Rep.Own.nil_, jb _ _⟩
 case round =>
  obtain ⟨k, hk, rfl, hout, hbl⟩ := hrel
  by_cases hlt : k < N
  ·have hlt' : ((k + 1 : Nat) : Int) ≤ (N : Int) := by omega
   have bd1 := begin_bd N k (by omega) (by omega)
   have bd2 := begin_bd N (k + 1) (by omega) (by omega)
   have hlen : ((List.range k).map (newRange (N : Int))).length = k := by simp
   obtain ⟨Ao, co, hu, _⟩ := hout.form
   rw [hlen] at hu
   subst hu
   have hrx : RangeR.rep wr (fun _ => False) [.int .i64 (beginR N k), .int .i64 (beginR N (k + 1) - 1), .int .i64 ((k : Int) + 1), .int .i64 1] (newRange N k) :=
    range_rep.2 ⟨rfl, show i64 (beginR N k) from ⟨by omega, by omega⟩, show i64 (beginR N (k + 1) - 1) from ⟨by omega, by omega⟩, show i64 ((k : Int) + 1) from ⟨by omega, by omega⟩, show i64 1 from ⟨by omega, by omega⟩⟩
   obtain ⟨i0, e1, e2, e3, e4⟩ := info_parts range_info
   have hwz := hbl.size
   have HBL := jh hbl
   obtain ⟨bd11, bd12⟩ := bd1
   obtain ⟨bd21, bd22⟩ := bd2
   have hwp : wrap64 (((k : Int) + 1) * 4294967296 / (N : Int) - 1) = ((k : Int) + 1) * 4294967296 / (N : Int) - 1 := wrap_in _ (by have e1 : beginR N (k + 1) = ((k : Int) + 1) * 4294967296 / (N : Int) := rfl; omega)
   clear hbl
   go_upto_region 7 with fail
   refine wp_region_mix (.seg [0, 1, 2, 3, 4, 5, 6, 7, 8, 9, 10, 11] 12 (.seg [] 13 (.seg [] 14 (.leaf [15])))) (fun w' => ∃ d : Wd (OnB w.heap.size wr), w' = d.w) (by kernel_rfl) (by kernel_rfl) (fun _ _ d _ _ h => by cases d <;> exact h) (ClsW.mk (jb _ _).drew) ?_
   unfold wpMix; simp only [pick, j1, j2, j3, j4]
   (repeat (show wpQuiet _ _ _ _ (_ :: _) _; go_big_quiet_step (fail))); refine qn ?_
   go_wp2_with fail
   (refine segw (D := OnB (w.heap.size) wr) ((jb _ _).drew) ?_; unfold wpMix; simp only [pick, j1, j2, j3, j4]; (repeat (show wpQuiet _ _ _ _ (_ :: _) _; go_big_quiet_step (fail))); refine qn ?_)
   go_wp2_with fail
   have hbn : Below wr.heap.size wr ((wr.alloc (.cells #[.int .i64 ((k : Int) * 4294967296 / (N : Int)), .int .i64 (((k : Int) + 1) * 4294967296 / (N : Int) - 1), .int .i64 ((k + 1 : Nat) : Int), .int .i64 1] 27)).drew) := by repeat (with_reducible first | assumption | exact jb _ _ | refine Below.al ?_ _ | refine Below.drew ?_ | apply Below.st1)
   have hrow := (Rep.Row.new1 (R := RangeR) (w := wr) (t := 27) (a := newRange N k) (P := fun _ => False) (cs := [.int .i64 (beginR N k), .int .i64 (beginR N (k + 1) - 1), .int .i64 ((k : Int) + 1), .int .i64 1]) hrx).ext ((jb _ _).drew)
   (refine segw (D := OnB (w.heap.size) wr) (hbn.mono hwz) ?_; unfold wpMix; simp only [pick, j1, j2, j3, j4]; (repeat (show wpQuiet _ _ _ _ (_ :: _) _; go_big_quiet_step (fail))); refine qn ?_)
   refine wpList_append_rep (R := RangeR) _ rfl (.tmp 17) (.tmp 30) _ rfl w.heap.size 27 i0 _ 32 Tryz.underlying58 e1 e2 e3 e4 rfl _ ((List.range k).map (newRange (N : Int))) (fun _ => True) rfl (hout.ext hbn) _ _ 1 [newRange N k] rfl hrow (fun g hg _ => ⟨trivial, fun e => by have h1 := (hout.lt g e.symm).2; rcases hg with hg | hg; exact hg; omega⟩) (by unfold maxLen; simp; omega) (by simp; omega) (Nat.le_trans hwz hbn.size) ?_
   intro v1 w6 ho1 hg1 hat1 hn1 hb6
   have hb6' : Below w.heap.size wr w6 := (hbn.mono hwz).trans hb6
   go_simp
   (refine segw (D := OnB (w.heap.size) wr) (hb6') ?_; unfold wpMix; simp only [pick, j1, j2, j3, j4]; (repeat (show wpQuiet _ _ _ _ (_ :: _) _; go_big_quiet_step (fail))); refine qn ?_)
   go_wp2_with fail
   go_round
   case rel =>
    refine ⟨k + 1, by omega, by go_num, ?_, HBL.out.trans hb6'⟩
    rw [List.range_succ, List.map_append]
    exact ho1
   case measure => simp [intOf]; omega
  ·have hkn : k = N := by omega
   subst hkn
   have hlt' : decide (((k + 1 : Nat) : Int) ≤ (k : Int)) = false := jd (by omega)
   go_wp2_with fail
   go_ret2
   refine ⟨⟨_, by rw [HE.out]; rfl, ?_⟩, hbl⟩
   rw [HE.out]
   exact hout.plain range_plain
theorem rHash_any (s : Str) (w : World) (hs : s.size ≤ 9223372036854775807) :
 Calls Tryz.prog 117 #[.string s] w fun e w' => e = .returned (.int .i64 (hashS s)) ∧ w = w' := by
 go_enter Tryz.func117, Tryz.ntmps117
 go_wp2
 go_loop [3, 4] (fun h i => ∃ k : Nat, k ≤ s.size ∧ i = .int .i64 k ∧ h = .int .u32 (hashL (s.data.toList.take k))) (fun _ i => s.size - (intOf i).toNat)
 case atStart => exact ⟨0, Nat.zero_le _, rfl, rfl⟩
 case round =>
  obtain ⟨k, hk, rfl, rfl⟩ := hrel
  by_cases hlt : k < s.size
  ·have hsn := hash_snoc (s.data.toList.take k) s[k]
   have hts := take_snocB s k hlt
   rw [← hts] at hsn
   have HS := jh hsn
   clear hsn hts
   go_wp2
   all_goals
    go_round
    case rel => exact ⟨k + 1, by omega, by go_num, by rw [HS.out, show ((s[k].toNat : Int)) % 4294967296 = s[k].toNat from by have := s[k].toNat_lt; omega]⟩
    case measure => simp [intOf]; omega
  ·have hb := hash_bd s.data.toList
   have h0 := hb.1
   have h1 := hb.2
   have ht : s.data.toList.take k = s.data.toList := List.take_of_length_le (by simp; omega)
   rw [ht]
   clear ht hb
   have HG := jh (show hashS s = hashL s.data.toList from rfl)
   generalize hashL s.data.toList = hh at *
   go_wp2
   go_ret
   exact ⟨by rw [HG.out]; rfl, rfl⟩
theorem rOf_any (A : Option Addr) (c : Nat) (l : List Range) (n : Str) (P : Nat → Prop) (w : World) (hr : RangeR.Row w P A l) (hs : soundR l = true) (hn : n.size ≤ 9223372036854775807) :
 Calls Tryz.prog 80 #[.slice A l.length c, .string n] w fun e w' => e = .returned (Found (ofR l n).1 (ofR l n).2) ∧ Below w.heap.size w w' := by
 have hb := hash_bd n.data.toList
 have hb0 := (jb w.heap.size w).al (.cells #[.int .i64 0, .int .i64 0, .int .i64 0, .int .i64 0] 27)
 have B0 := Blk.new w 27 [.int .i64 0, .int .i64 0, .int .i64 0, .int .i64 0]
 have C1 := rHash_any n (w.alloc (.cells #[.int .i64 0, .int .i64 0, .int .i64 0, .int .i64 0] 27)) hn
 have C2 := rfind_any A c l (hashS n) P (w.alloc (.cells #[.int .i64 0, .int .i64 0, .int .i64 0, .int .i64 0] 27)) (hr.ext hb0) hs hb.1 hb.2
 have H0 := jh (ja hb0 B0)
 clear hr hs hb hb0 B0
 unfold Found at C2
 unfold ofR
 generalize findR l (hashS n) = q at *
 obtain ⟨x, ok⟩ := q
 dsimp only at *
 go_enter Tryz.func80, Tryz.ntmps80
 go_wp2_with fail
 refine C1.mono ?_
 clear C1
 rintro e w' ⟨rfl, rfl⟩
 go_wp2_with fail
 refine C2.mono ?_
 clear C2
 rintro e w1 ⟨rfl, hb1⟩
 have B1 := H0.out.2.ext hb1
 have hw1 := H0.out.1.tr hb1
 have hlt := B1.lt
 have f0 := B1.frozen
 have b0 := B1.cell 0
 have b1 := B1.cell 1
 have b2 := B1.cell 2
 have b3 := B1.cell 3
 simp only [List.getElem?_cons_zero, List.getElem?_cons_succ] at b0 b1 b2 b3
 have HB := jh (ja B1 hw1)
 clear B1 hw1 hb1
 go_wp2_with fail
 exact bodyPost_ret (results_blk_tmp rfl _ ((((HB.out.1.set_ 0 (.int .i64 x.first)).set_ 1 (.int .i64 x.last)).set_ 2 (.int .i64 x.owner)).set_ 3 (.int .i64 x.epoch)) rfl Tryz.underlying27 rfl (by kernel_rfl)) rfl ⟨rfl, (((HB.out.2.st (Nat.le_refl _) _).st (Nat.le_refl _) _).st (Nat.le_refl _) _).st (Nat.le_refl _) _⟩
def GotPtr (B : Nat) (e : Ending) : Prop := ∃ g, e = .returned (.tuple #[.pointer (some ⟨g, 0, none⟩), .int .i64 0]) ∧ B ≤ g
theorem rNew_any (self : Int) (N : Nat) (w : World) (hN : 1 ≤ N ∧ N ≤ 5) (hs : 1 ≤ self ∧ self ≤ N) : Calls Tryz.prog 18 #[.int .i64 self, .int .i64 N] w fun e w' => GotPtr w.heap.size e ∧ Below w.heap.size w w' := by
 have C := rNewRing_any N w hN
 have HE := jh (show newR N = ((List.range N).map (newRange N), 0) from by unfold newR; rw [if_neg (by omega)]; rfl)
 unfold GotRing at C
 rw [HE.out] at C
 dsimp only at C
 obtain ⟨s1, s2⟩ := hs
 have h1 : decide (self < 1) = false := jd (by omega)
 have h2 : decide ((N : Int) < self) = false := jd (by omega)
 go_enter Tryz.func18, Tryz.ntmps18
 go_wp2_with fail
 refine C.mono ?_
 clear C
 rintro e w1 ⟨⟨v, rfl, ho⟩, hb⟩
 obtain ⟨A, c, rfl, _⟩ := ho.form
 clear ho
 have HB := jh hb
 have hz := hb.size
 clear hb
 go_wp2_with fail
 go_ret2
 exact ⟨⟨_, rfl, hz⟩, by have h := HB.out; repeat (with_reducible first | assumption | exact jb _ _ | refine Below.al ?_ _ | refine Below.drew ?_ | apply Below.st1)⟩
theorem rNewClock_any (w : World) : Calls Tryz.prog 76 #[.int .i64 1, .int .i64 1] w fun e w' => GotPtr w.heap.size e ∧ Below w.heap.size w w' := by
 go_enter Tryz.func76, Tryz.ntmps76
 go_wp2
 go_ret2
 exact ⟨⟨_, rfl, Nat.le_refl _⟩, (jb _ _).al _⟩
end Go.Proofs.YtcmjgghkmdbphaaGreatDoor
namespace Go.Proofs.YtcmjgghkmdbphaaGreatDoor
open Go.RowKit
def ck1 : Clk := ⟨0, ⟨1, 0, 1⟩⟩
theorem ck1_ok : ck1.Ok := ⟨by decide, by decide, by decide, by decide⟩
structure FrAt (B : Nat) (s0 : St) (wb g gc : Nat) (W : World) : Prop where
 hwb : B ≤ wb
 hg : B ≤ g
 hgc : B ≤ gc
 ne : g ≠ gc
 wne : wb ≠ gc
 st : StAt W (fun k => (B ≤ k ∧ k ≠ g) ∧ k < gc) g s0
 ck : CkAt W gc ck1
 c0 : W.cell? ⟨wb, 0, none⟩ = some (ptrV g)
 c1 : W.cell? ⟨wb, 1, none⟩ = some (ptrV gc)
def GotFresh (B : Nat) (s0 : St) (e : Ending) (w' : World) : Prop := ∃ wb g gc, e = .returned (.tuple #[.pointer (some ⟨wb, 0, none⟩), .bool true]) ∧ FrAt B s0 wb g gc w'
theorem fresh21_any (w : World) (s0 : St) (hs : newS 1 2 = some s0) : Calls Tryz.prog 63 #[] w fun e w' => GotFresh w.heap.size s0 e w' ∧ Below w.heap.size w w' := by
 have C1 := newState_any 1 2 w (i64_small 1 (by omega)) (i64_small 2 (by omega))
 unfold GotState at C1
 rw [hs] at C1
 dsimp only at C1
 clear hs
 go_enter Tryz.func63, Tryz.ntmps63
 go_wp2_with fail
 refine C1.mono ?_
 clear C1
 rintro e w1 ⟨⟨g, rfl, hg, hst, _⟩, hb1⟩
 have H1 := jh (ja hst hb1)
 have C2 := clkNew_any 1 1 w1 ⟨⟨by decide, by decide⟩, by decide, by decide⟩
 have hz1 := hb1.size
 clear hst hb1
 unfold ptrV
 go_wp2_with fail
 refine C2.mono ?_
 clear C2
 rintro e w2 ⟨rfl, hc2, hz2, hb2⟩
 have H2 := jh (ja hc2 (H1.out.2.tr hb2))
 have hst2 : StAt w2 (fun k => (w.heap.size ≤ k ∧ k ≠ g) ∧ k < w1.heap.size) g s0 := by
  obtain ⟨v, a, b⟩ := H1.out.1
  exact ⟨v, a.ext hb2, b.low.same (js hb2)⟩
 have hgl := H1.out.1.lt
 have HS := jh hst2
 clear hc2 hb2 hst2
 have C3 := rNew_any 1 2 w2 (by omega) (by omega)
 unfold GotPtr at C3
 go_wp2_with fail
 refine C3.mono ?_
 clear C3
 rintro e w3 ⟨⟨gm, rfl, hgm⟩, hb3⟩
 have H3 := jh hb3
 have hz3 := hb3.size
 clear hb3
 have C4 := rNewClock_any w3
 unfold GotPtr at C4
 go_wp2_with fail
 refine C4.mono ?_
 clear C4
 rintro e w4 ⟨⟨gd, rfl, hgd⟩, hb4⟩
 have H4 := jh (H3.out.tr hb4)
 have hz4 := hb4.size
 clear hb4
 go_wp2_with fail
 go_ret2
 have hbn := H4.out.al (.cells #[.pointer (some ⟨g, 0, none⟩), .pointer (some ⟨w1.heap.size, 0, none⟩), .pointer (some ⟨gm, 0, none⟩), .pointer (some ⟨gd, 0, none⟩)] 127)
 have B := Blk.new w4 127 [.pointer (some ⟨g, 0, none⟩), .pointer (some ⟨w1.heap.size, 0, none⟩), .pointer (some ⟨gm, 0, none⟩), .pointer (some ⟨gd, 0, none⟩)]
 refine ⟨⟨w4.heap.size, g, w1.heap.size, rfl, ?_⟩, H2.out.2.tr hbn⟩
 exact ⟨by omega, hg, by omega, by omega, by omega, by
  obtain ⟨v, a, b⟩ := HS.out
  exact ⟨v, a.ext hbn, b.same (js hbn)⟩, Blk.ext H2.out.1 hbn, B.cell 0, B.cell 1⟩
end Go.Proofs.YtcmjgghkmdbphaaGreatDoor
namespace Go.Proofs.YtcmjgghkmdbphaaGreatDoor
open Go.RowKit
def frS : St := ⟨1, 2, 0, 0, (newR 2).1, [], [], [], [], [], []⟩
theorem fr_new : newS 1 2 = some frS := by kernel_rfl
theorem fr_fit : Fit frS := (inv_new fr_new).fit (by decide)
def frB (n : Str) : Batch := ⟨⟨#[]⟩, [⟨n, -1, [⟨#[120]⟩]⟩]⟩
def tx1 : Tx := ⟨2, 1, 1⟩
theorem tx1_fit : tx1.fit := ⟨i64_small 2 (by omega), i64_small 1 (by omega), i64_small 1 (by omega)⟩
theorem fr_prep : prepP frS ck1 tx1 (frB ⟨#[98]⟩) zeroStamp = (ck1, noP 8) := by kernel_rfl
theorem fr_of : ofR frS.ring ⟨#[98]⟩ = (⟨2147483648, 4294967295, 2, 1⟩, true) := by kernel_rfl
theorem Rep.Row.blk {α : Type} {R : Rep α} {w : World} {g : Nat} {t : TypeId} {cs : List Value} {P : Nat → Prop} {a : α} (h : Blk w g t cs) (hr : R.rep w P cs a) : R.Row w (fun k => P k ∨ k = g) (some ⟨g, 0, none⟩) [a] := fun _ => by
 refine ⟨g, 0, rfl, .inr rfl, h.lt, fun i b hi => ?_⟩
 match i, hi with
 | 0, hi =>
   simp at hi; subst hi
   exact ⟨cs, R.mono hr fun k hk _ => .inl hk, fun j u hu => by rw [h.cell]; simpa using hu⟩
theorem put_row {w : World} {xb pb : Nat} {n : Str} (hn : sfit n) (hx : Blk w xb 9 [.string ⟨#[120]⟩]) (hp : Blk w pb 69 [.string n, .int .i64 (-1), .slice (some ⟨xb, 0, none⟩) 1 1]) :
 PutR.Row w (fun k => k = xb ∨ k = pb) (some ⟨pb, 0, none⟩) (frB n).puts := by
 have r1 : StrR.Row w (fun k => False ∨ k = xb) (some ⟨xb, 0, none⟩) [⟨#[120]⟩] := Rep.Row.blk hx ⟨rfl, show sfit ⟨#[120]⟩ from (by show (1 : Nat) ≤ _; omega)⟩
 have r2 := Rep.Row.blk (R := PutR) (a := ⟨n, -1, [⟨#[120]⟩]⟩) hp (put_rep.2 ⟨some ⟨xb, 0, none⟩, 1, rfl, hn, i64_small (-1) (by omega), Nat.le_refl 1, (by decide : (1 : Nat) ≤ 9223372036854775807), r1⟩)
 exact r2.mono fun k h _ => by rcases h with (h | h) | h <;> first | exact h.elim | exact .inl h | exact .inr h
theorem fr_call (W : World) (P : Nat → Prop) (g gc xb pb : Nat) (hst : StAt W P g frS) (hc : CkAt W gc ck1) (hg : g ≠ gc) (hP : ¬ P gc) (h2 : 2 ≤ gc) (hx : Blk W xb 9 [.string ⟨#[120]⟩]) (hp : Blk W pb 69 [.string ⟨#[98]⟩, .int .i64 (-1), .slice (some ⟨xb, 0, none⟩) 1 1])
 (h1 : gc ≠ xb) (h3 : gc ≠ pb) (hT : Tabs W) :
 Calls Tryz.prog 59 #[ptrV g, .pointer (some ⟨gc, 0, none⟩), .agg #[.int .i64 2, .int .i64 1, .int .i64 1, .string ⟨#[]⟩, .slice (some ⟨pb, 0, none⟩) 1 1, .int .i64 0, .int .i64 0, .int .i64 0]] W fun e w' => (∃ rA rc fA fc, e = .returned (.agg (planV (.slice rA 0 rc) tx1 8 zeroStamp (.slice fA 0 fc) false false).toArray)) ∧ Only (· = gc) W w' := by
 refine (partPrepare_any g gc frS ck1 tx1 (frB ⟨#[98]⟩) zeroStamp (some ⟨pb, 0, none⟩) 1 P (fun k => k = xb ∨ k = pb) W hst fr_fit (by decide) (fun p hp => by cases hp) hc ck1_ok hg hP (fun h => by rcases h with h | h <;> omega) h2
  (put_row (by show (1 : Nat) ≤ _; omega) hx hp) ⟨Nat.le_refl _, by decide⟩ ⟨by decide, by show (0 : Nat) ≤ _; omega, fun p hp => by rcases List.mem_singleton.1 hp with rfl; decide⟩ tx1_fit hT).mono ?_
 rw [fr_prep]
 rintro e w' ⟨⟨rA, rc, fA, fc, rfl, _⟩, _, hO⟩
 exact ⟨⟨rA, rc, fA, fc, rfl⟩, hO⟩
theorem awake21_any (w : World) (hT : Tabs w) (h2 : 2 ≤ w.heap.size) : Calls Tryz.prog 56 #[] w fun e w' => e = .returned (.bool true) ∧ Below w.heap.size w w' := by
 have C1 := fresh21_any w frS fr_new
 unfold GotFresh at C1
 have HT := jh hT
 clear hT
 go_enter Tryz.func56, Tryz.ntmps56
 go_wp2_with fail
 refine C1.mono ?_
 clear C1
 rintro e w1 ⟨⟨wb, g, gc, rfl, hfr⟩, hb1⟩
 have hz1 := hb1.size
 have e0 : w1.cell? ⟨wb, 0, none⟩ = some (.pointer (some ⟨g, 0, none⟩)) := hfr.c0
 have e1 : w1.cell? ⟨wb, 1, none⟩ = some (.pointer (some ⟨gc, 0, none⟩)) := hfr.c1
 have hwbl := lt_of_cell e0
 have hwb := hfr.hwb
 have hg := hfr.hg
 have hgc := hfr.hgc
 have hne := hfr.ne
 have hfr' := hfr.wne
 have hgl := hfr.st.lt
 have hcl := hfr.ck.lt
 have H1 := jh (ja hfr hb1)
 clear hfr hb1
 have hwne := hfr'
 have y0 := OnlyD.cell (F := (· = gc)) e0 hwne
 have y1 := OnlyD.cell (F := (· = gc)) e1 hwne
 have HW := jh (fun W (hW : Below w1.heap.size w1 W) => (show StAt W (fun k => (w.heap.size ≤ k ∧ k ≠ g) ∧ k < gc) g frS ∧ CkAt W gc ck1 ∧ Tabs W from ⟨by obtain ⟨v, a, b⟩ := H1.out.1.st; exact ⟨v, a.ext hW, b.same (js hW)⟩, Blk.ext H1.out.1.ck hW, (HT.out.below H1.out.2).below hW⟩))
 go_upto_region 4 with fail
 haveI : Nonempty (Wd (Only (fun k => k = gc) w1)) := ⟨⟨w1, Only.refl _ _⟩⟩
 go_cut [3] from 12 to 26 (fun v wx => ∃ pb rA rc fA fc, v = .pointer (some ⟨pb, 0, none⟩) ∧ Blk wx pb 113 (planV (.slice rA 0 rc) tx1 8 zeroStamp (.slice fA 0 fc) false false) ∧ Only (fun k => k = gc) w1 wx)
 case first =>
  refine wp_region_mix (.fork [0, 1, 2, 3, 4, 5, 6, 7, 8] 9 (.fork [10] 11 (.fork [12, 13] 14 (.seg [] 15 (.seg [] 16 (.leaf []))) 15 (.seg [] 14 (.seg [] 16 (.leaf [])))) 15 (.seg [] 11 (.seg [12, 13] 14 (.seg [] 16 (.leaf []))))) 15 (.seg [] 9 (.seg [10] 11 (.seg [12, 13] 14 (.seg [] 16 (.leaf [])))))) (fun w' => ∃ d : Wd (Only (fun k => k = gc) w1), w' = d.w) (by kernel_rfl) (by kernel_rfl) (fun _ _ d _ _ h => by cases d <;> exact h) (ClsW.mk Only.drew) ?_
  unfold wpMix; simp only [pick, j1, j2, j3, j4]
  (repeat (show wpQuiet _ _ _ _ (_ :: _) _; go_big_quiet_step (fail))); refine qn ?_
  constructor
  ·have hbA0 : Below w1.heap.size w1 w1 := jb _ _
   go_wp2_with fail
   have hb1 : Below w1.heap.size w1 ((w1.alloc (.cells #[.string ⟨#[120]⟩] 9)).drew) := by repeat (with_reducible first | assumption | exact jb _ _ | refine Below.al ?_ _ | refine Below.drew ?_ | apply Below.st1)
   have fS1 : Blk ((w1.alloc (.cells #[.string ⟨#[120]⟩] 9)).drew) w1.heap.size 9 [.string ⟨#[120]⟩] := Blk.new w1 9 [.string ⟨#[120]⟩]
   have hbA1 := hbA0.tr hb1
   have hz1 : w1.heap.size < ((w1.alloc (.cells #[.string ⟨#[120]⟩] 9)).drew).heap.size := fS1.lt
   generalize (w1.alloc (.cells #[.string ⟨#[120]⟩] 9)).drew = v1 at *
   (refine segw (D := Only (fun k => k = gc) w1) ((jo hbA1)) ?_; unfold wpMix; simp only [pick, j1, j2, j3, j4]; (repeat (show wpQuiet _ _ _ _ (_ :: _) _; go_big_quiet_step (fail))); refine qn ?_)
   constructor
   ·go_wp2_with fail
    have hb2 : Below v1.heap.size v1 (v1.alloc (.cells #[.string ⟨#[98]⟩, .int .i64 (-1), .slice (some ⟨w1.heap.size, 0, none⟩) 1 1] 69)) := by repeat (with_reducible first | assumption | exact jb _ _ | refine Below.al ?_ _ | refine Below.drew ?_ | apply Below.st1)
    have fP2 : Blk (v1.alloc (.cells #[.string ⟨#[98]⟩, .int .i64 (-1), .slice (some ⟨w1.heap.size, 0, none⟩) 1 1] 69)) v1.heap.size 69 [.string ⟨#[98]⟩, .int .i64 (-1), .slice (some ⟨w1.heap.size, 0, none⟩) 1 1] := Blk.new v1 69 [.string ⟨#[98]⟩, .int .i64 (-1), .slice (some ⟨w1.heap.size, 0, none⟩) 1 1]
    have fS2 := fS1.ext hb2
    have hbA2 := hbA1.tr hb2
    have hz2 : v1.heap.size < (v1.alloc (.cells #[.string ⟨#[98]⟩, .int .i64 (-1), .slice (some ⟨w1.heap.size, 0, none⟩) 1 1] 69)).heap.size := fP2.lt
    generalize v1.alloc (.cells #[.string ⟨#[98]⟩, .int .i64 (-1), .slice (some ⟨w1.heap.size, 0, none⟩) 1 1] 69) = v2 at *
    (refine segw (D := Only (fun k => k = gc) w1) ((jo hbA2)) ?_; unfold wpMix; simp only [pick, j1, j2, j3, j4]; (repeat (show wpQuiet _ _ _ _ (_ :: _) _; go_big_quiet_step (fail))); refine qn ?_)
    constructor
    ·go_wp2_with fail
     have CP := fr_call v2 _ g gc w1.heap.size v1.heap.size (HW.out _ hbA2).1 (HW.out _ hbA2).2.1 hne (fun h => by have := h.2; omega) (by omega) fS2 fP2 (by omega) (by omega) (HW.out _ hbA2).2.2
     unfold ptrV at CP
     refine CP.mono ?_
     clear CP
     rintro e v3 ⟨⟨rA, rc, fA, fc, rfl⟩, hOc⟩
     have hO3 := (jo (F := fun k => k = gc) hbA2).tr hOc
     have hz3 := hOc.size
     clear hOc
     go_wp2_with fail
     (refine segw (D := Only (fun k => k = gc) w1) (hO3) ?_; unfold wpMix; simp only [pick, j1, j2, j3, j4]; (repeat (show wpQuiet _ _ _ _ (_ :: _) _; go_big_quiet_step (fail))); refine qn ?_)
     go_wp2_with fail
     have hb4 : Below v3.heap.size v3 (v3.alloc (.cells #[.slice none 0 0, .int .i64 0, .int .i64 0, .int .i64 0, .int .i64 0, .int .i64 0, .int .i64 0, .int .i64 0, .slice none 0 0, .bool false, .bool false] 113)) := by repeat (with_reducible first | assumption | exact jb _ _ | refine Below.al ?_ _ | refine Below.drew ?_ | apply Below.st1)
     have fZ4 : Blk (v3.alloc (.cells #[.slice none 0 0, .int .i64 0, .int .i64 0, .int .i64 0, .int .i64 0, .int .i64 0, .int .i64 0, .int .i64 0, .slice none 0 0, .bool false, .bool false] 113)) v3.heap.size 113 [.slice none 0 0, .int .i64 0, .int .i64 0, .int .i64 0, .int .i64 0, .int .i64 0, .int .i64 0, .int .i64 0, .slice none 0 0, .bool false, .bool false] := Blk.new v3 113 [.slice none 0 0, .int .i64 0, .int .i64 0, .int .i64 0, .int .i64 0, .int .i64 0, .int .i64 0, .int .i64 0, .slice none 0 0, .bool false, .bool false]
     have hO4 := hO3.tr (jo (F := fun k => k = gc) hb4)
     have hz4 : v3.heap.size < (v3.alloc (.cells #[.slice none 0 0, .int .i64 0, .int .i64 0, .int .i64 0, .int .i64 0, .int .i64 0, .int .i64 0, .int .i64 0, .slice none 0 0, .bool false, .bool false] 113)).heap.size := fZ4.lt
     generalize v3.alloc (.cells #[.slice none 0 0, .int .i64 0, .int .i64 0, .int .i64 0, .int .i64 0, .int .i64 0, .int .i64 0, .int .i64 0, .slice none 0 0, .bool false, .bool false] 113) = v4 at *
     (refine segw (D := Only (fun k => k = gc) w1) (hO4) ?_; unfold wpMix; simp only [pick, j1, j2, j3, j4]; (repeat (show wpQuiet _ _ _ _ (_ :: _) _; go_big_quiet_step (fail))); refine qn ?_)
     refine wpList_store_blk (cs := planV (.slice rA 0 rc) tx1 8 zeroStamp (.slice fA 0 fc) false false) rfl rfl rfl rfl rfl fZ4 (by kernel_rfl) rfl (by simp [planV, Value.oneCell']) ?_
     intro v9 hB9 hO9 hz9
     go_simp
     have hO5 := hO4.trans hO9 (fun q hq e => by have e' : q = v3.heap.size := e; omega)
     (refine segw (D := Only (fun k => k = gc) w1) (hO5) ?_; unfold wpMix; simp only [pick, List.filterMap_nil]; (repeat (show wpQuiet _ _ _ _ (_ :: _) _; go_big_quiet_step (fail))); refine qn ?_)
     go_wp2_with fail
     go_meet
     exact ⟨_, rA, rc, fA, fc, rfl, hB9, hO5⟩
    ·go_wp2_with fail
     have hb3 : Below v2.heap.size v2 (v2.alloc (.cells #[.slice none 0 0, .int .i64 0, .int .i64 0, .int .i64 0, .int .i64 0, .int .i64 0, .int .i64 0, .int .i64 0, .slice none 0 0, .bool false, .bool false] 113)) := by repeat (with_reducible first | assumption | exact jb _ _ | refine Below.al ?_ _ | refine Below.drew ?_ | apply Below.st1)
     have fZ3 : Blk (v2.alloc (.cells #[.slice none 0 0, .int .i64 0, .int .i64 0, .int .i64 0, .int .i64 0, .int .i64 0, .int .i64 0, .int .i64 0, .slice none 0 0, .bool false, .bool false] 113)) v2.heap.size 113 [.slice none 0 0, .int .i64 0, .int .i64 0, .int .i64 0, .int .i64 0, .int .i64 0, .int .i64 0, .int .i64 0, .slice none 0 0, .bool false, .bool false] := Blk.new v2 113 [.slice none 0 0, .int .i64 0, .int .i64 0, .int .i64 0, .int .i64 0, .int .i64 0, .int .i64 0, .int .i64 0, .slice none 0 0, .bool false, .bool false]
     have fS3 := fS2.ext hb3
     have fP3 := fP2.ext hb3
     have hbA3 := hbA2.tr hb3
     have hz3 : v2.heap.size < (v2.alloc (.cells #[.slice none 0 0, .int .i64 0, .int .i64 0, .int .i64 0, .int .i64 0, .int .i64 0, .int .i64 0, .int .i64 0, .slice none 0 0, .bool false, .bool false] 113)).heap.size := fZ3.lt
     generalize v2.alloc (.cells #[.slice none 0 0, .int .i64 0, .int .i64 0, .int .i64 0, .int .i64 0, .int .i64 0, .int .i64 0, .int .i64 0, .slice none 0 0, .bool false, .bool false] 113) = v3 at *
     (refine segw (D := Only (fun k => k = gc) w1) ((jo hbA3)) ?_; unfold wpMix; simp only [pick, j1, j2, j3, j4]; (repeat (show wpQuiet _ _ _ _ (_ :: _) _; go_big_quiet_step (fail))); refine qn ?_)
     go_wp2_with fail
     have CP := fr_call v3 _ g gc w1.heap.size v1.heap.size (HW.out _ hbA3).1 (HW.out _ hbA3).2.1 hne (fun h => by have := h.2; omega) (by omega) fS3 fP3 (by omega) (by omega) (HW.out _ hbA3).2.2
     unfold ptrV at CP
     refine CP.mono ?_
     clear CP
     rintro e v4 ⟨⟨rA, rc, fA, fc, rfl⟩, hOc⟩
     have hO4 := (jo (F := fun k => k = gc) hbA3).tr hOc
     have fZ4 := fZ3.only hOc (fun e => by have e' : v2.heap.size = gc := e; omega)
     have hz4 := hOc.size
     clear hOc
     go_wp2_with fail
     (refine segw (D := Only (fun k => k = gc) w1) (hO4) ?_; unfold wpMix; simp only [pick, j1, j2, j3, j4]; (repeat (show wpQuiet _ _ _ _ (_ :: _) _; go_big_quiet_step (fail))); refine qn ?_)
     refine wpList_store_blk (cs := planV (.slice rA 0 rc) tx1 8 zeroStamp (.slice fA 0 fc) false false) rfl rfl rfl rfl rfl fZ4 (by kernel_rfl) rfl (by simp [planV, Value.oneCell']) ?_
     intro v9 hB9 hO9 hz9
     go_simp
     have hO5 := hO4.trans hO9 (fun q hq e => by have e' : q = v2.heap.size := e; omega)
     (refine segw (D := Only (fun k => k = gc) w1) (hO5) ?_; unfold wpMix; simp only [pick, List.filterMap_nil]; (repeat (show wpQuiet _ _ _ _ (_ :: _) _; go_big_quiet_step (fail))); refine qn ?_)
     go_wp2_with fail
     go_meet
     exact ⟨_, rA, rc, fA, fc, rfl, hB9, hO5⟩
   ·go_wp2_with fail
    have hb2 : Below v1.heap.size v1 (v1.alloc (.cells #[.slice none 0 0, .int .i64 0, .int .i64 0, .int .i64 0, .int .i64 0, .int .i64 0, .int .i64 0, .int .i64 0, .slice none 0 0, .bool false, .bool false] 113)) := by repeat (with_reducible first | assumption | exact jb _ _ | refine Below.al ?_ _ | refine Below.drew ?_ | apply Below.st1)
    have fZ2 : Blk (v1.alloc (.cells #[.slice none 0 0, .int .i64 0, .int .i64 0, .int .i64 0, .int .i64 0, .int .i64 0, .int .i64 0, .int .i64 0, .slice none 0 0, .bool false, .bool false] 113)) v1.heap.size 113 [.slice none 0 0, .int .i64 0, .int .i64 0, .int .i64 0, .int .i64 0, .int .i64 0, .int .i64 0, .int .i64 0, .slice none 0 0, .bool false, .bool false] := Blk.new v1 113 [.slice none 0 0, .int .i64 0, .int .i64 0, .int .i64 0, .int .i64 0, .int .i64 0, .int .i64 0, .int .i64 0, .slice none 0 0, .bool false, .bool false]
    have fS2 := fS1.ext hb2
    have hbA2 := hbA1.tr hb2
    have hz2 : v1.heap.size < (v1.alloc (.cells #[.slice none 0 0, .int .i64 0, .int .i64 0, .int .i64 0, .int .i64 0, .int .i64 0, .int .i64 0, .int .i64 0, .slice none 0 0, .bool false, .bool false] 113)).heap.size := fZ2.lt
    generalize v1.alloc (.cells #[.slice none 0 0, .int .i64 0, .int .i64 0, .int .i64 0, .int .i64 0, .int .i64 0, .int .i64 0, .int .i64 0, .slice none 0 0, .bool false, .bool false] 113) = v2 at *
    (refine segw (D := Only (fun k => k = gc) w1) ((jo hbA2)) ?_; unfold wpMix; simp only [pick, j1, j2, j3, j4]; (repeat (show wpQuiet _ _ _ _ (_ :: _) _; go_big_quiet_step (fail))); refine qn ?_)
    go_wp2_with fail
    have hb3 : Below v2.heap.size v2 (v2.alloc (.cells #[.string ⟨#[98]⟩, .int .i64 (-1), .slice (some ⟨w1.heap.size, 0, none⟩) 1 1] 69)) := by repeat (with_reducible first | assumption | exact jb _ _ | refine Below.al ?_ _ | refine Below.drew ?_ | apply Below.st1)
    have fP3 : Blk (v2.alloc (.cells #[.string ⟨#[98]⟩, .int .i64 (-1), .slice (some ⟨w1.heap.size, 0, none⟩) 1 1] 69)) v2.heap.size 69 [.string ⟨#[98]⟩, .int .i64 (-1), .slice (some ⟨w1.heap.size, 0, none⟩) 1 1] := Blk.new v2 69 [.string ⟨#[98]⟩, .int .i64 (-1), .slice (some ⟨w1.heap.size, 0, none⟩) 1 1]
    have fS3 := fS2.ext hb3
    have fZ3 := fZ2.ext hb3
    have hbA3 := hbA2.tr hb3
    have hz3 : v2.heap.size < (v2.alloc (.cells #[.string ⟨#[98]⟩, .int .i64 (-1), .slice (some ⟨w1.heap.size, 0, none⟩) 1 1] 69)).heap.size := fP3.lt
    generalize v2.alloc (.cells #[.string ⟨#[98]⟩, .int .i64 (-1), .slice (some ⟨w1.heap.size, 0, none⟩) 1 1] 69) = v3 at *
    (refine segw (D := Only (fun k => k = gc) w1) ((jo hbA3)) ?_; unfold wpMix; simp only [pick, j1, j2, j3, j4]; (repeat (show wpQuiet _ _ _ _ (_ :: _) _; go_big_quiet_step (fail))); refine qn ?_)
    go_wp2_with fail
    have CP := fr_call v3 _ g gc w1.heap.size v2.heap.size (HW.out _ hbA3).1 (HW.out _ hbA3).2.1 hne (fun h => by have := h.2; omega) (by omega) fS3 fP3 (by omega) (by omega) (HW.out _ hbA3).2.2
    unfold ptrV at CP
    refine CP.mono ?_
    clear CP
    rintro e v4 ⟨⟨rA, rc, fA, fc, rfl⟩, hOc⟩
    have hO4 := (jo (F := fun k => k = gc) hbA3).tr hOc
    have fZ4 := fZ3.only hOc (fun e => by have e' : v1.heap.size = gc := e; omega)
    have hz4 := hOc.size
    clear hOc
    go_wp2_with fail
    (refine segw (D := Only (fun k => k = gc) w1) (hO4) ?_; unfold wpMix; simp only [pick, j1, j2, j3, j4]; (repeat (show wpQuiet _ _ _ _ (_ :: _) _; go_big_quiet_step (fail))); refine qn ?_)
    refine wpList_store_blk (cs := planV (.slice rA 0 rc) tx1 8 zeroStamp (.slice fA 0 fc) false false) rfl rfl rfl rfl rfl fZ4 (by kernel_rfl) rfl (by simp [planV, Value.oneCell']) ?_
    intro v9 hB9 hO9 hz9
    go_simp
    have hO5 := hO4.trans hO9 (fun q hq e => by have e' : q = v1.heap.size := e; omega)
    (refine segw (D := Only (fun k => k = gc) w1) (hO5) ?_; unfold wpMix; simp only [pick, List.filterMap_nil]; (repeat (show wpQuiet _ _ _ _ (_ :: _) _; go_big_quiet_step (fail))); refine qn ?_)
    go_wp2_with fail
    go_meet
    exact ⟨_, rA, rc, fA, fc, rfl, hB9, hO5⟩
  ·have hbA0 : Below w1.heap.size w1 w1 := jb _ _
   go_wp2_with fail
   have hb1 : Below w1.heap.size w1 ((w1.alloc (.cells #[.slice none 0 0, .int .i64 0, .int .i64 0, .int .i64 0, .int .i64 0, .int .i64 0, .int .i64 0, .int .i64 0, .slice none 0 0, .bool false, .bool false] 113)).drew) := by repeat (with_reducible first | assumption | exact jb _ _ | refine Below.al ?_ _ | refine Below.drew ?_ | apply Below.st1)
   have fZ1 : Blk ((w1.alloc (.cells #[.slice none 0 0, .int .i64 0, .int .i64 0, .int .i64 0, .int .i64 0, .int .i64 0, .int .i64 0, .int .i64 0, .slice none 0 0, .bool false, .bool false] 113)).drew) w1.heap.size 113 [.slice none 0 0, .int .i64 0, .int .i64 0, .int .i64 0, .int .i64 0, .int .i64 0, .int .i64 0, .int .i64 0, .slice none 0 0, .bool false, .bool false] := Blk.new w1 113 [.slice none 0 0, .int .i64 0, .int .i64 0, .int .i64 0, .int .i64 0, .int .i64 0, .int .i64 0, .int .i64 0, .slice none 0 0, .bool false, .bool false]
   have hbA1 := hbA0.tr hb1
   have hz1 : w1.heap.size < ((w1.alloc (.cells #[.slice none 0 0, .int .i64 0, .int .i64 0, .int .i64 0, .int .i64 0, .int .i64 0, .int .i64 0, .int .i64 0, .slice none 0 0, .bool false, .bool false] 113)).drew).heap.size := fZ1.lt
   generalize (w1.alloc (.cells #[.slice none 0 0, .int .i64 0, .int .i64 0, .int .i64 0, .int .i64 0, .int .i64 0, .int .i64 0, .int .i64 0, .slice none 0 0, .bool false, .bool false] 113)).drew = v1 at *
   (refine segw (D := Only (fun k => k = gc) w1) ((jo hbA1)) ?_; unfold wpMix; simp only [pick, j1, j2, j3, j4]; (repeat (show wpQuiet _ _ _ _ (_ :: _) _; go_big_quiet_step (fail))); refine qn ?_)
   go_wp2_with fail
   have hb2 : Below v1.heap.size v1 (v1.alloc (.cells #[.string ⟨#[120]⟩] 9)) := by repeat (with_reducible first | assumption | exact jb _ _ | refine Below.al ?_ _ | refine Below.drew ?_ | apply Below.st1)
   have fS2 : Blk (v1.alloc (.cells #[.string ⟨#[120]⟩] 9)) v1.heap.size 9 [.string ⟨#[120]⟩] := Blk.new v1 9 [.string ⟨#[120]⟩]
   have fZ2 := fZ1.ext hb2
   have hbA2 := hbA1.tr hb2
   have hz2 : v1.heap.size < (v1.alloc (.cells #[.string ⟨#[120]⟩] 9)).heap.size := fS2.lt
   generalize v1.alloc (.cells #[.string ⟨#[120]⟩] 9) = v2 at *
   (refine segw (D := Only (fun k => k = gc) w1) ((jo hbA2)) ?_; unfold wpMix; simp only [pick, j1, j2, j3, j4]; (repeat (show wpQuiet _ _ _ _ (_ :: _) _; go_big_quiet_step (fail))); refine qn ?_)
   go_wp2_with fail
   have hb3 : Below v2.heap.size v2 (v2.alloc (.cells #[.string ⟨#[98]⟩, .int .i64 (-1), .slice (some ⟨v1.heap.size, 0, none⟩) 1 1] 69)) := by repeat (with_reducible first | assumption | exact jb _ _ | refine Below.al ?_ _ | refine Below.drew ?_ | apply Below.st1)
   have fP3 : Blk (v2.alloc (.cells #[.string ⟨#[98]⟩, .int .i64 (-1), .slice (some ⟨v1.heap.size, 0, none⟩) 1 1] 69)) v2.heap.size 69 [.string ⟨#[98]⟩, .int .i64 (-1), .slice (some ⟨v1.heap.size, 0, none⟩) 1 1] := Blk.new v2 69 [.string ⟨#[98]⟩, .int .i64 (-1), .slice (some ⟨v1.heap.size, 0, none⟩) 1 1]
   have fZ3 := fZ2.ext hb3
   have fS3 := fS2.ext hb3
   have hbA3 := hbA2.tr hb3
   have hz3 : v2.heap.size < (v2.alloc (.cells #[.string ⟨#[98]⟩, .int .i64 (-1), .slice (some ⟨v1.heap.size, 0, none⟩) 1 1] 69)).heap.size := fP3.lt
   generalize v2.alloc (.cells #[.string ⟨#[98]⟩, .int .i64 (-1), .slice (some ⟨v1.heap.size, 0, none⟩) 1 1] 69) = v3 at *
   (refine segw (D := Only (fun k => k = gc) w1) ((jo hbA3)) ?_; unfold wpMix; simp only [pick, j1, j2, j3, j4]; (repeat (show wpQuiet _ _ _ _ (_ :: _) _; go_big_quiet_step (fail))); refine qn ?_)
   go_wp2_with fail
   have CP := fr_call v3 _ g gc v1.heap.size v2.heap.size (HW.out _ hbA3).1 (HW.out _ hbA3).2.1 hne (fun h => by have := h.2; omega) (by omega) fS3 fP3 (by omega) (by omega) (HW.out _ hbA3).2.2
   unfold ptrV at CP
   refine CP.mono ?_
   clear CP
   rintro e v4 ⟨⟨rA, rc, fA, fc, rfl⟩, hOc⟩
   have hO4 := (jo (F := fun k => k = gc) hbA3).tr hOc
   have fZ4 := fZ3.only hOc (fun e => by have e' : w1.heap.size = gc := e; omega)
   have hz4 := hOc.size
   clear hOc
   go_wp2_with fail
   (refine segw (D := Only (fun k => k = gc) w1) (hO4) ?_; unfold wpMix; simp only [pick, j1, j2, j3, j4]; (repeat (show wpQuiet _ _ _ _ (_ :: _) _; go_big_quiet_step (fail))); refine qn ?_)
   refine wpList_store_blk (cs := planV (.slice rA 0 rc) tx1 8 zeroStamp (.slice fA 0 fc) false false) rfl rfl rfl rfl rfl fZ4 (by kernel_rfl) rfl (by simp [planV, Value.oneCell']) ?_
   intro v9 hB9 hO9 hz9
   go_simp
   have hO5 := hO4.trans hO9 (fun q hq e => by have e' : q = w1.heap.size := e; omega)
   (refine segw (D := Only (fun k => k = gc) w1) (hO5) ?_; unfold wpMix; simp only [pick, List.filterMap_nil]; (repeat (show wpQuiet _ _ _ _ (_ :: _) _; go_big_quiet_step (fail))); refine qn ?_)
   go_wp2_with fail
   go_meet
   exact ⟨_, rA, rc, fA, fc, rfl, hB9, hO5⟩
 case rest =>
  obtain ⟨pb, rA, rc, fA, fc, rfl, hB9, hO9⟩ := hcut
  have hz9 := hO9.size
  have hpb := hB9.lt
  have H9 := jh (ja hB9 hO9)
  have hst9 : StAt wc (fun k => (w.heap.size ≤ k ∧ k ≠ g) ∧ k < gc) g frS := by
   obtain ⟨v, a, b⟩ := H1.out.1.st
   exact ⟨v, a.only hO9 hne, b.same (Same.of_only hO9 fun k hk e => by have e' : k = gc := e; have := hk.2; omega)⟩
  have e0' : wc.cell? ⟨wb, 0, none⟩ = some (.pointer (some ⟨g, 0, none⟩)) := (World.cell?_of_block (hO9.block wb hwbl hwne)).trans e0
  have C2 := sranges_any g frS _ wc hst9 (by decide) (by decide)
  unfold GotOwn ptrV at C2
  clear hB9 hO9 hst9 y0 y1
  go_wp2_with fail
  refine C2.mono ?_
  clear C2 e0'
  rintro e wd ⟨⟨v, rfl, ho⟩, hbd⟩
  obtain ⟨Ar, cr, rfl, _⟩ := ho.form
  have C3 := rOf_any Ar cr frS.ring ⟨#[98]⟩ (fun _ => True) wd (ho.row' range_plain fun _ _ => trivial) (by kernel_rfl) (by show (1 : Nat) ≤ _; omega)
  rw [fr_of] at C3
  unfold Found at C3
  dsimp only at C3
  have HD := jh hbd
  clear ho hbd
  go_wp2_with fail
  refine C3.mono ?_
  clear C3
  rintro e we ⟨rfl, hbe⟩
  have HE := jh (HD.out.tr hbe)
  have B := H9.out.1.ext HE.out
  have p0 := B.cell 0
  have p4 := B.cell 4
  have hlt := B.lt
  simp only [planV, List.getElem?_cons_zero, List.getElem?_cons_succ] at p0 p4
  clear hbe B
  go_wp2_with fail
  go_ret
  exact ⟨rfl, ((H1.out.2.trans (H9.out.2.low (fun k e => by have e' : k = gc := e; omega) hz1)).tr HE.out).al _⟩
end Go.Proofs.YtcmjgghkmdbphaaGreatDoor
namespace Go.Proofs.YtcmjgghkmdbphaaGreatDoor
open Go.RowKit
def lessS (a b : Stamp) : Bool := if a.wall ≠ b.wall then decide (a.wall < b.wall) else if a.logic ≠ b.logic then decide (a.logic < b.logic) else decide (a.node < b.node)
theorem rLess_any (a b : Stamp) (w : World) : Calls Tryz.prog 61 #[.agg #[.int .i64 a.wall, .int .i64 a.logic, .int .i64 a.node], .agg #[.int .i64 b.wall, .int .i64 b.logic, .int .i64 b.node]] w fun e w' => e = .returned (.bool (lessS a b)) ∧ Below w.heap.size w w' := by
 have hcase : (a.wall != b.wall) = true ∨ ((a.wall != b.wall) = false ∧ (a.logic != b.logic) = true) ∨ ((a.wall != b.wall) = false ∧ (a.logic != b.logic) = false) := by
  cases (a.wall != b.wall) <;> cases (a.logic != b.logic) <;> simp
 rcases hcase with h | ⟨h, h'⟩ | ⟨h, h'⟩
 ·have HL := jh (show lessS a b = decide (a.wall < b.wall) from by unfold lessS; rw [if_pos (by simpa using h)])
  go_enter Tryz.func61, Tryz.ntmps61
  go_wp2_with fail
  go_ret
  exact ⟨ret_bool HL.out.symm, by repeat (with_reducible first | assumption | exact jb _ _ | refine Below.al ?_ _ | refine Below.drew ?_ | apply Below.st1)⟩
 ·have HL := jh (show lessS a b = decide (a.logic < b.logic) from by unfold lessS; rw [if_neg (by simpa using h), if_pos (by simpa using h')])
  go_enter Tryz.func61, Tryz.ntmps61
  go_wp2_with fail
  go_ret
  exact ⟨ret_bool HL.out.symm, by repeat (with_reducible first | assumption | exact jb _ _ | refine Below.al ?_ _ | refine Below.drew ?_ | apply Below.st1)⟩
 ·have HL := jh (show lessS a b = decide (a.node < b.node) from by unfold lessS; rw [if_neg (by simpa using h), if_neg (by simpa using h')])
  go_enter Tryz.func61, Tryz.ntmps61
  go_wp2_with fail
  go_ret
  exact ⟨ret_bool HL.out.symm, by repeat (with_reducible first | assumption | exact jb _ _ | refine Below.al ?_ _ | refine Below.drew ?_ | apply Below.st1)⟩
end Go.Proofs.YtcmjgghkmdbphaaGreatDoor
namespace Go.Proofs.YtcmjgghkmdbphaaGreatDoor
open Go.RowKit
theorem lessS_iff (a b : Stamp) : lessS a b = true ↔ a.wall < b.wall ∨ (a.wall = b.wall ∧ (a.logic < b.logic ∨ (a.logic = b.logic ∧ a.node < b.node))) := by
 unfold lessS
 by_cases h1 : a.wall = b.wall
 ·by_cases h2 : a.logic = b.logic
  ·rw [if_neg (fun h => h h1), if_neg (fun h => h h2), decide_eq_true_eq]; omega
  ·rw [if_neg (fun h => h h1), if_pos h2, decide_eq_true_eq]; omega
 ·rw [if_pos h1, decide_eq_true_eq]; omega
theorem less_no {a b : Stamp} (h : ¬ (a.wall < b.wall ∨ (a.wall = b.wall ∧ (a.logic < b.logic ∨ (a.logic = b.logic ∧ a.node < b.node))))) : lessS a b = false := by
 rw [Bool.eq_false_iff]; exact fun q => h ((lessS_iff a b).1 q)
theorem stOrd_pos (a b : Stamp) : 0 < stOrd a b ↔ lessS b a = true := by
 rw [lessS_iff]
 unfold stOrd
 simp only [orI, cmpI]
 split <;> (try split) <;> (try split) <;> (try split) <;> (try split) <;> omega
theorem maxS_cases (a b : Stamp) : (lessS a b = true ∧ maxS a b = b) ∨ (lessS a b = false ∧ maxS a b = a) := by
 unfold maxS mostI pickI
 simp only [List.foldl, Int.mul_one]
 by_cases h : 0 < stOrd b a
 ·rw [if_pos h]; exact .inl ⟨(stOrd_pos b a).1 h, rfl⟩
 ·rw [if_neg h]; exact .inr ⟨by rw [Bool.eq_false_iff]; exact fun q => h ((stOrd_pos b a).2 q), rfl⟩
theorem merge_node (c : Clk) (s : Stamp) : (mergeC c s).1.last.node = c.last.node ∧ (mergeC c s).1.reading = c.reading := by
 unfold mergeC
 split
 ·exact ⟨rfl, rfl⟩
 split
 ·exact ⟨rfl, rfl⟩
 ·rcases maxS_cases c.last { s with node := c.last.node } with ⟨_, h⟩ | ⟨_, h⟩ <;> exact ⟨by show (maxS _ _).node = _; rw [h], rfl⟩
theorem merge_up (c : Clk) (s : Stamp) : (c.last.wall < (mergeC c s).1.last.wall ∨ (c.last.wall = (mergeC c s).1.last.wall ∧ c.last.logic ≤ (mergeC c s).1.last.logic)) ∧
 ((mergeC c s).2 = 0 → s.wall < (mergeC c s).1.last.wall ∨ (s.wall = (mergeC c s).1.last.wall ∧ s.logic ≤ (mergeC c s).1.last.logic)) := by
 unfold mergeC
 split
 ·exact ⟨.inr ⟨rfl, Int.le_refl _⟩, fun h => absurd (show (1 : Int) = 0 from h) (by decide)⟩
 split
 ·exact ⟨.inr ⟨rfl, Int.le_refl _⟩, fun h => absurd (show (6 : Int) = 0 from h) (by decide)⟩
 ·rcases maxS_cases c.last { s with node := c.last.node } with ⟨h1, h⟩ | ⟨h1, h⟩
  ·rw [lessS_iff] at h1
   dsimp only at h1
   refine ⟨?_, fun _ => ?_⟩
   ·show c.last.wall < (maxS _ _).wall ∨ (c.last.wall = (maxS _ _).wall ∧ c.last.logic ≤ (maxS _ _).logic)
    rw [h]; dsimp only; omega
   ·show s.wall < (maxS _ _).wall ∨ (s.wall = (maxS _ _).wall ∧ s.logic ≤ (maxS _ _).logic)
    rw [h]; dsimp only; omega
  ·have h2 : ¬ _ := fun q => Bool.eq_false_iff.1 h1 ((lessS_iff _ _).2 q)
   dsimp only at h2
   refine ⟨?_, fun _ => ?_⟩
   ·show c.last.wall < (maxS _ _).wall ∨ (c.last.wall = (maxS _ _).wall ∧ c.last.logic ≤ (maxS _ _).logic)
    rw [h]; omega
   ·show s.wall < (maxS _ _).wall ∨ (s.wall = (maxS _ _).wall ∧ s.logic ≤ (maxS _ _).logic)
    rw [h]; omega
theorem tick_up (c : Clk) : (tickC c).1.last.node = c.last.node ∧ (((tickC c).2.2 = 0 ∧ (tickC c).2.1 = (tickC c).1.last ∧ (c.last.wall < (tickC c).1.last.wall ∨ (c.last.wall = (tickC c).1.last.wall ∧ c.last.logic < (tickC c).1.last.logic))) ∨ ((tickC c).2.2 ≠ 0 ∧ (tickC c).1 = c)) := by
 have hn : (nextC c).node = c.last.node := by unfold nextC; split <;> rfl
 have hu : c.last.wall < (nextC c).wall ∨ (c.last.wall = (nextC c).wall ∧ c.last.logic < (nextC c).logic) := by
  unfold nextC
  split
  ·exact .inl (by assumption)
  ·exact .inr ⟨rfl, by show c.last.logic < c.last.logic + 1; omega⟩
 unfold tickC
 split
 ·exact ⟨rfl, .inr ⟨(by decide : (7 : Int) ≠ 0), rfl⟩⟩
 ·exact ⟨hn, .inl ⟨rfl, rfl, hu⟩⟩
structure StampsOk (c : Clk) (t : Tx) (b : Batch) (st : Stamp) (q : Clk × PlanP) : Prop where
 node : q.1.last.node = c.last.node
 up : c.last.wall < q.1.last.wall ∨ (c.last.wall = q.1.last.wall ∧ c.last.logic ≤ q.1.last.logic)
 one : (q.2.recs = []) ∨ (q.2.recs = [prepR t b q.2.stamp] ∧ q.2.stamp = q.1.last ∧ lessS c.last q.2.stamp = true ∧ lessS q.2.stamp ⟨st.wall, st.logic, 0⟩ = false)
theorem prepP_stamps (s : St) (c : Clk) (t : Tx) (b : Batch) (st : Stamp) (hn : 1 ≤ c.last.node) : StampsOk c t b st (prepP s c t b st) := by
 have hm := merge_up c st
 have hmn := (merge_node c st).1
 unfold prepP
 split
 ·exact ⟨rfl, .inr ⟨rfl, Int.le_refl _⟩, .inl rfl⟩
 split
 ·exact ⟨rfl, .inr ⟨rfl, Int.le_refl _⟩, .inl rfl⟩
 split
 ·exact ⟨hmn, hm.1, .inl rfl⟩
 rename_i hm0
 have hm0' : (mergeC c st).2 = 0 := Classical.not_not.1 hm0
 have hs := hm.2 hm0'
 have ht := tick_up (mergeC c st).1
 unfold prepM
 split
 ·split
  ·rename_i h7
   rcases ht.2 with ⟨h, _⟩ | ⟨_, h⟩
   ·exact absurd h h7
   ·rw [h]; exact ⟨hmn, hm.1, .inl rfl⟩
  ·rename_i h7
   rcases ht.2 with ⟨_, h1, h2⟩ | ⟨h, _⟩
   ·have hm1 := hm.1
    have hnn : (tickC (mergeC c st).1).1.last.node = c.last.node := ht.1.trans hmn
    refine ⟨hnn, by dsimp only; omega, .inr ⟨by rw [h1], h1, ?_, ?_⟩⟩
    ·dsimp only; rw [h1, lessS_iff]; omega
    ·dsimp only; rw [h1]; refine less_no ?_
     dsimp only; omega
   ·exact absurd h h7
 split
 ·exact ⟨hmn, hm.1, .inl rfl⟩
 ·exact ⟨hmn, hm.1, .inl rfl⟩
theorem decP_stamps (s : St) (c : Clk) (t : Tx) (yes : Bool) (st : Stamp) : (decP s c t yes st).1.last.node = c.last.node ∧ (c.last.wall < (decP s c t yes st).1.last.wall ∨ (c.last.wall = (decP s c t yes st).1.last.wall ∧ c.last.logic ≤ (decP s c t yes st).1.last.logic)) ∧
 ((decP s c t yes st).2.1 = [] ∨ ∃ x, (decP s c t yes st).2.1 = [decR t yes x] ∧ (x = st ∨ x = zeroStamp)) := by
 have hm := merge_up c st
 have hmn := (merge_node c st).1
 unfold decP
 split
 ·exact ⟨rfl, .inr ⟨rfl, Int.le_refl _⟩, .inl rfl⟩
 split
 ·rename_i hy
  split
  ·exact ⟨hmn, hm.1, .inl rfl⟩
  ·exact ⟨hmn, hm.1, .inr ⟨st, by rw [hy], .inl rfl⟩⟩
 ·rename_i hy
  exact ⟨rfl, .inr ⟨rfl, Int.le_refl _⟩, .inr ⟨zeroStamp, by rw [Bool.not_eq_true] at hy; rw [hy], .inr rfl⟩⟩
theorem less_up {a b : Stamp} (hn : b.node = a.node) (h : a.wall < b.wall ∨ (a.wall = b.wall ∧ a.logic ≤ b.logic)) : lessS b a = false := less_no (by omega)
def Keyed (s : St) : Prop := ∀ p ∈ s.held, p.2.tx = p.1
theorem apply_keyed {s : St} {r : Rec} (h : Keyed s) : Keyed (applyS s r).1 := by
 have hput : ∀ (x : St) b f st, (putS x b f st).held = x.held := fun _ _ _ _ => rfl
 unfold applyS
 split
 ·exact h
 unfold doS
 split
 ·unfold lifeS; split <;> exact h
 split
 ·unfold ceilS; split <;> exact h
 split
 ·unfold commitS; split
  ·intro p hp; exact h p hp
  ·exact h
 split
 ·unfold prepareS
  split
  ·exact h
  split
  ·exact h
  split
  ·intro p hp
   rcases putA_mem hp with rfl | ⟨hp, _⟩ | hp
   ·rfl
   ·exact h p hp
   ·exact h p hp
  ·exact h
 split
 ·unfold decideS
  split
  ·exact h
  ·have hd : ∀ p ∈ delA r.tx s.held, p.2.tx = p.1 := fun p hp => h p ((delA_sub r.tx s.held).mem hp)
   dsimp only
   split
   ·intro p hp; exact hd p hp
   ·exact hd
 split
 ·unfold outcomeS
  split
  ·exact h
  split <;> exact h
 split
 ·unfold forgetS; split <;> exact h
 split
 ·unfold splitS
  split
  ·exact h
  split
  ·exact h
  split <;> exact h
 split
 ·unfold freezeS
  split
  ·exact h
  split
  ·exact h
  split <;> exact h
 split
 ·unfold installS
  split
  ·exact h
  split
  ·exact h
  split <;> exact h
 ·unfold releaseS
  dsimp only
  split
  ·exact h
  split
  ·exact h
  split <;> exact h
end Go.Proofs.YtcmjgghkmdbphaaGreatDoor
namespace Go.Proofs.YtcmjgghkmdbphaaGreatDoor
open Go.RowKit
theorem applyP_any (g : Nat) (s : St) (r : Rec) (hK : r.kind = 4 ∨ r.kind = 5) (nA pA sA : Option Addr) (nc pc sc : Nat) (P Q : Nat → Prop) (w : World) (h : StAt w P g s) (hg : ¬ P g) (hS : Fit s)
 (hr : RecAt w Q r nA nc pA pc sA sc) (hQ : ¬ Q g) (hF : r.Fair) (hT : Tabs w) (h2 : 2 ≤ g) (_hP : PutFair r.streams) (_hrl : s.ring.length ≤ 300) (_hfl : (freshT s.table).length ≤ 40000) :
 Calls Tryz.prog 19 #[ptrV g, .agg (r.cells nA nc pA pc sA sc).toArray] w (StOut w P g (applyS s r)) := by
 have hgl := h.lt
 have HH := jh (ja h (ja hg (ja hS (ja hr (ja hF hT)))))
 clear h hg hS hr hF hT
 have hb1 := (jb w.heap.size w).al (.cells (r.cells nA nc pA pc sA sc).toArray 46)
 have B0 := Blk.new w 46 (r.cells nA nc pA pc sA sc)
 have hs1 : (w.alloc (.cells (r.cells nA nc pA pc sA sc).toArray 46)).heap.size = w.heap.size + 1 := by simp
 unfold ptrV
 go_enter Tryz.func19, Tryz.ntmps19
 go_upto_region 1 with fail
 refine forget (M := fun W => Code.wp _ _ _ _ W) (fun W => Below w.heap.size w W ∧ Blk W w.heap.size 46 (r.cells nA nc pA pc sA sc) ∧ W.heap.size = w.heap.size + 1) ⟨hb1, B0, hs1⟩ ?_
 clear B0 hb1 hs1
 rintro w1 ⟨hb1, B0, hs1⟩
 obtain ⟨v, hB, hI⟩ := HH.out.1
 have C1 := gone_any g s.self w1 ((hB.ext hb1).cell 0) HH.out.2.2.1.self
 have C2 := recCheckP_any r hK nA pA sA nc pc sc Q w1 (HH.out.2.2.2.1.ext (js hb1) hb1.size) HH.out.2.2.2.2.1 (HH.out.2.2.2.2.2.below hb1) (by omega)
 unfold ptrV at C1
 have H1 := jh (ja hb1 hs1)
 clear hB hI hb1
 go_wp2_with fail
 refine C1.mono ?_
 clear C1
 rintro e w' ⟨rfl, rfl⟩
 go_wp2_with (first
  | ((with_reducible refine wpList_load_blk rfl rfl ?_ B0 Tryz.underlying46 rfl (by kernel_rfl) ?_); · rfl)
  | fail)
 refine C2.mono ?_
 clear C2
 rintro e w2 ⟨rfl, hb2⟩
 have B2 := B0.ext hb2
 have hw2 := H1.out.1.tr hb2
 by_cases hc : checkR r = 0
 ·have hk := checkR_kind hc
  have HA := jh (show applyS s r = doS s r from by unfold applyS; rw [if_neg (by rw [hc]; simp)])
  have hst2 : StAt w2 P g s := by obtain ⟨v, hB, hI⟩ := HH.out.1; exact ⟨v, hB.ext hw2, hI.same (js hw2)⟩
  have hra := (HH.out.2.2.2.1.mono fun k h h' => (⟨h, h'⟩ : Q k ∧ k < w.heap.size)).ext (js hw2) hw2.size
  have hT2 := HH.out.2.2.2.2.2.below hw2
  have D4 := jh fun (h : r.kind = 4) => (show Calls Tryz.prog 90 #[ptrV g, .agg (r.cells nA nc pA pc sA sc).toArray] w2 (StOut w2 P g (applyS s r)) from by rw [HA.out, show doS s r = prepareS s r from by unfold doS; rw [h]; rfl]; exact prepare_any g s r nA pA sA nc pc sc P (fun k => Q k ∧ k < w.heap.size) w2 hst2 HH.out.2.1 HH.out.2.2.1 hra (fun h => hQ h.1) HH.out.2.2.2.2.1.puts HH.out.2.2.2.2.1.data hT2 h2)
  have D5 := jh fun (h : r.kind = 5) => (show Calls Tryz.prog 91 #[ptrV g, .agg (r.cells nA nc pA pc sA sc).toArray] w2 (StOut w2 P g (applyS s r)) from by rw [HA.out, show doS s r = decideS s r from by unfold doS; rw [h]; rfl]; exact decide_out g s r nA pA sA nc pc sc P (fun k => Q k ∧ k < w.heap.size) w2 hst2 HH.out.2.1 HH.out.2.2.1 hra (fun h => hQ h.1) HH.out.2.2.2.2.1.puts HH.out.2.2.2.2.1.data hT2 h2)
  have hcase := hK
  rw [hc]
  have x0 : w2.cell? ⟨w.heap.size, 0, none⟩ = some (.int .i64 r.kind) := B2.cell 0
  have H2 := jh hw2
  clear hc hb2 hw2 B0 hst2 hra hT2 hk HA
  generalize applyS s r = q at *
  rcases hcase with h8 | h8
  all_goals
   first
    | have C3 := D4.out h8
    | have C3 := D5.out h8
   rw [h8] at x0
   clear D4 D5 h8
   unfold ptrV at C3
   go_wp2_with (first
    | ((with_reducible refine wpList_load_blk rfl rfl ?_ B2 Tryz.underlying46 rfl (by kernel_rfl) ?_); · rfl)
    | fail)
   refine C3.mono ?_
   clear C3 x0 B2
   rintro e w3 ⟨rfl, hst, hO⟩
   have H3 := jh (ja hst hO)
   clear hst hO
   go_wp2_with fail
   go_ret
   unfold StOut
   obtain ⟨v', a1, a2⟩ := H3.out.1
   exact ⟨rfl, ⟨v', a1, a2.mono fun k hk => by
    rcases hk with h | h
    ·exact .inl h
    ·exact .inr (by have := H2.out.size; omega)⟩, (jo H2.out).tr H3.out.2⟩
 ·have HC := jh (show applyS s r = (s, checkR r) from by unfold applyS; rw [if_pos hc])
  have hc' : (checkR r != 0) = true := bne_iff_ne.2 hc
  obtain ⟨v, hB, hI⟩ := HH.out.1
  have H3 := jh (ja (⟨v, hB.ext hw2, hI.same (js hw2)⟩ : StAt w2 P g s) hw2)
  clear hc hB hI hb2 hw2 B0 B2
  go_wp2_with fail
  go_ret
  unfold StOut
  rw [HC.out]
  obtain ⟨v', a1, a2⟩ := H3.out.1
  exact ⟨rfl, ⟨v', a1, a2.mono fun k hk => .inl hk⟩, jo H3.out.2⟩
end Go.Proofs.YtcmjgghkmdbphaaGreatDoor
namespace Go.Proofs.YtcmjgghkmdbphaaGreatDoor
open Go.RowKit
theorem cell_only {F : Nat → Prop} {w w' : World} {p : Addr} {u : Value} (h : w.cell? p = some u) (hO : Only F w w') (hF : ¬ F p.block) : w'.cell? p = some u :=
 OnlyD.cell h hF ⟨w', hO⟩
theorem heldQ_len : ∀ l : List (Tx × Held), (∀ p ∈ l, 1 ≤ sumD p.2.batch.puts) → l.length ≤ heldD l
 | [], _ => by simp
 | p :: l, h => by
   have h1 := heldQ_len l fun q hq => h q (by simp [hq])
   have h2 := h p (by simp)
   have e : heldD (p :: l) = sumD p.2.batch.puts + heldD l := by simp [heldD]
   rw [e, List.length_cons]; omega
theorem heldQ_few {s : St} {N : Nat} (h : Inv s N) : s.held.length ≤ N := by
 have h1 := heldQ_len s.held fun p hp => by
  have hg := checkB_good (h.held p hp).check
  obtain ⟨q, l, e⟩ := List.exists_cons_of_ne_nil hg.some
  have h3 := (hg.puts q (by rw [e]; simp)).2.2.1
  have h4 := List.length_pos_iff.2 h3
  rw [e]
  have e2 : sumD (q :: l) = q.data.length + sumD l := by simp [sumD]
  rw [e2]; omega
 have h2 := h.log
 omega
structure QI (w : World) (wb g gc : Nat) (P : Nat → Prop) (s : St) (c : Clk) (N : Nat) (W : World) : Prop where
 c0 : W.cell? ⟨wb, 0, none⟩ = some (.pointer (some ⟨g, 0, none⟩))
 c1 : W.cell? ⟨wb, 1, none⟩ = some (.pointer (some ⟨gc, 0, none⟩))
 st : StAt W P g s
 ck : CkAt W gc c
 ok : c.Ok
 node : c.last.node = 1
 inv : Inv s N
 keyed : Keyed s
 pg : ¬ P g
 pc : ¬ P gc
 ge : w.heap.size ≤ wb ∧ w.heap.size ≤ g ∧ w.heap.size ≤ gc
 ne : g ≠ gc ∧ wb ≠ g ∧ wb ≠ gc
 tabs : Tabs W
 below : Below w.heap.size w W
section
variable {w W W' : World} {wb g gc : Nat} {P : Nat → Prop} {s s' : St} {c c' : Clk} {N N' : Nat}
theorem QI.ext (h : QI w wb g gc P s c N W) (hb : Below W.heap.size W W') : QI w wb g gc (fun k => P k ∧ k < W.heap.size) s c N W' :=
 ⟨cell_only (F := fun _ => False) h.c0 (jo hb) (fun h => h), cell_only (F := fun _ => False) h.c1 (jo hb) (fun h => h), by obtain ⟨v, x, d⟩ := h.st; exact ⟨v, x.ext hb, d.low.same (js hb)⟩, Blk.ext h.ck hb, h.ok, h.node, h.inv, h.keyed,
  fun hk => h.pg hk.1, fun hk => h.pc hk.1, h.ge, h.ne, h.tabs.below hb, h.below.tr hb⟩
theorem QI.ckd (h : QI w wb g gc P s c N W) (h2 : 2 ≤ w.heap.size) (hc : CkAt W' gc c') (hO : Only (· = gc) W W') (hk : c'.Ok) (hn : c'.last.node = 1) : QI w wb g gc (fun k => P k ∧ k < W.heap.size) s c' N W' := by
 obtain ⟨n1, n2, n3⟩ := h.ne
 have hg := h.ge.2.2
 refine ⟨cell_only h.c0 hO n3, cell_only h.c1 hO n3, ?_, hc, hk, hn, h.inv, h.keyed, fun hk => h.pg hk.1, fun hk => h.pc hk.1, h.ge, h.ne, h.tabs.only hO (by intro e; have e' : 0 = gc := e; omega) (by intro e; have e' : 1 = gc := e; omega), h.below.trans (hO.low (fun k e => by have e' : k = gc := e; omega) h.below.size)⟩
 obtain ⟨v, x, d⟩ := h.st
 exact ⟨v, x.only hO n1, d.low.same (Same.of_only hO fun k hk e => by have e' : k = gc := e; subst e'; exact h.pc hk.1)⟩
theorem QI.stt (h : QI w wb g gc P s c N W) (h2 : 2 ≤ w.heap.size) (hs : StAt W' (fun k => P k ∨ W.heap.size ≤ k) g s') (hO : Only (· = g) W W') (hi : Inv s' N') (hk : Keyed s') : QI w wb g gc (fun k => P k ∨ W.heap.size ≤ k) s' c N' W' := by
 obtain ⟨n1, n2, n3⟩ := h.ne
 have hg := h.ge.2.1
 have hgl := h.st.lt
 have hcl : gc < W.heap.size := Blk.lt h.ck
 refine ⟨cell_only h.c0 hO n2, cell_only h.c1 hO n2, hs, Blk.only h.ck hO (fun e => n1 e.symm), h.ok, h.node, hi, hk, fun hk => ?_, fun hk => ?_, h.ge, h.ne, h.tabs.only hO (by intro e; have e' : 0 = g := e; omega) (by intro e; have e' : 1 = g := e; omega), h.below.trans (hO.low (fun k e => by have e' : k = g := e; omega) h.below.size)⟩
 ·rcases hk with hk | hk
  ·exact h.pg hk
  ·omega
 ·rcases hk with hk | hk
  ·exact h.pc hk
  ·omega
theorem QI.start {B : Nat} (hB : w.heap.size ≤ B) (hT : Tabs W) (hb : Below w.heap.size w W) (h : FrAt B frS wb g gc W) : QI w wb g gc (fun k => (B ≤ k ∧ k ≠ g) ∧ k < gc) frS ck1 0 W := by
 have hwg : wb ≠ g := by
  obtain ⟨v, hB, _⟩ := h.st
  intro e
  subst e
  have h0 := h.c0
  have h1 : W.cell? ⟨wb, 0, none⟩ = _ := hB.cell 0
  rw [h1] at h0
  cases h0
 exact ⟨h.c0, h.c1, h.st, h.ck, ck1_ok, rfl, inv_new fr_new, (fun p hp => by cases hp), (fun hk => hk.1.2 rfl), (fun hk => by have := hk.2; omega), ⟨Nat.le_trans hB h.hwb, Nat.le_trans hB h.hg, Nat.le_trans hB h.hgc⟩, ⟨h.ne, hwg, h.wne⟩, hT, hb⟩
end
theorem prepP_ok {s : St} {c : Clk} {t : Tx} {b : Batch} {st : Stamp} (h : c.Ok) : (prepP s c t b st).1.Ok := by
 have hm := merge_ok (s := st) h
 unfold prepP
 split
 ·exact h
 split
 ·exact h
 split
 ·exact hm
 unfold prepM
 split
 ·split <;> exact tick_ok hm
 split <;> exact hm
theorem decP_ok {s : St} {c : Clk} {t : Tx} {yes : Bool} {st : Stamp} (h : c.Ok) : (decP s c t yes st).1.Ok := by
 have hm := merge_ok (s := st) h
 unfold decP
 split
 ·exact h
 split
 ·split <;> exact hm
 ·exact h
theorem prepR_fair {t : Tx} {b : Batch} {st : Stamp} (h : sizeB b ≤ 20000) : (prepR t b st).Fair := by
 have hb := sizeB_sum b
 exact ⟨by show b.puts.length ≤ _; omega, fun p hp => by have := hb.2.2 p hp; omega, by show (0 : Nat) ≤ _; decide, by show (0 : Nat) ≤ _; decide, by show (0 : Nat) ≤ _; decide, fun s hs => by cases hs⟩
theorem prepR_put {t : Tx} {b : Batch} {st : Stamp} : PutFair (prepR t b st).streams := ⟨by show (0 : Nat) ≤ _; decide, fun s hs => by cases hs⟩
theorem decR_fair {t : Tx} {y : Bool} {st : Stamp} : (decR t y st).Fair := ⟨by show (0 : Nat) ≤ _; decide, (fun p hp => by cases hp), by show (0 : Nat) ≤ _; decide, by show (0 : Nat) ≤ _; decide, by show (0 : Nat) ≤ _; decide, fun s hs => by cases hs⟩
theorem decR_put {t : Tx} {y : Bool} {st : Stamp} : PutFair (decR t y st).streams := ⟨by show (0 : Nat) ≤ _; decide, fun s hs => by cases hs⟩
theorem prepR_cost {t : Tx} {b : Batch} {st : Stamp} : (costR (prepR t b st) : Int) ≤ sizeB b := by
 have hb := sizeB_sum b
 have e : costR (prepR t b st) = sumD b.puts := by simp [costR, prepR]
 rw [e]; exact hb.1
theorem decR_cost {t : Tx} {y : Bool} {st : Stamp} : costR (decR t y st) = 0 := rfl
theorem sizePs_take {l : List PStep} {k : Nat} (h : k < l.length) : sizePs (l.take (k + 1)) = sizePs (l.take k) + (sizeB l[k].batch + 5) := by
 unfold sizePs
 rw [take_snoc _ _ h, List.map_append, List.sum_append]; simp
theorem sizePs_le (l : List PStep) (k : Nat) : sizePs (l.take k) ≤ sizePs l ∧ 0 ≤ sizePs (l.take k) := by
 have hp : ∀ m : List PStep, 0 ≤ sizePs m := by
  intro m
  induction m with
  | nil => simp [sizePs]
  | cons a m ih =>
    have := sizeB_sum a.batch
    have e : sizePs (a :: m) = (sizeB a.batch + 5) + sizePs m := by simp [sizePs]
    rw [e]; omega
 refine ⟨?_, hp _⟩
 have e : sizePs l = sizePs (l.take k) + sizePs (l.drop k) := by
  unfold sizePs
  rw [← List.sum_append, ← List.map_append, List.take_append_drop]
 have := hp (l.drop k)
 omega
end Go.Proofs.YtcmjgghkmdbphaaGreatDoor
namespace Go.Proofs.YtcmjgghkmdbphaaGreatDoor
open Go.RowKit
section
variable {P : Program} {ops : Array Oper} {rest : List Oper} {o : Oper} {a : Act}
theorem run_load_at {w : World} {ty : TypeId} {b off : Nat} {cs : List Value} {d : TypeDesc} (hg : ∀ j u, cs[j]? = some u → w.cell? ⟨b, off + j, none⟩ = some u) (hu : P.underlying ty = some d) (hd : (match d with | .struct _ | .array _ _ => true | _ => false) = true) (hi : (P.info? ty).map (·.size) = some cs.length) :
 (loadVar ty ⟨b, off, none⟩).run P w = .ok (.agg cs.toArray) w := by
 have hl : (loadCells ⟨b, off, none⟩ cs.length).run P w = .ok cs.toArray w :=
  run_loadCells_list (P := P) w ⟨b, off, none⟩ cs (fun j v hv => by rw [add_off]; exact hg j v hv)
 cases hq : P.info? ty with
 | none => simp [hq] at hi
 | some i =>
   have hs : i.size = cs.length := by simpa [hq] using hi
   have hagg : (isAgg ty).run P w = .ok true w := by
    unfold isAgg
    rw [Sem.run_bind, run_underlying hu w]
    cases d <;> simp_all
   simp [loadVar, Sem.run_bind, hagg, sizeOf, typeInfo, hq, hs, hl]
theorem wpQuiet_load_at {C : World → Prop} {Q : Act → Prop} (hw : Region.wanted o (yielded ops a.tmps) = true) {ty : TypeId} {x : Operand} (ho : o.op = .load ty x) {b off : Nat} (hx : a.eval x = .pointer (some ⟨b, off, none⟩)) {cs : List Value} {d : TypeDesc}
 (hg : ∀ w, C w → ∀ j u, cs[j]? = some u → w.cell? ⟨b, off + j, none⟩ = some u) (hu : P.underlying ty = some d) (hd : (match d with | .struct _ | .array _ _ => true | _ => false) = true) (hi : (P.info? ty).map (·.size) = some cs.length)
 (h : wpQuiet P ops C Q rest (a.put o.dst (.agg cs.toArray))) : wpQuiet P ops C Q (o :: rest) a := by
 refine BigFrame.wpQuiet_want hw fun K hK => ⟨.agg cs.toArray, fun w hC => ?_, hK _ h⟩
 unfold Oper.quietAt execOp
 simp only [ho, hx, Instr.loadAt, Instr.sureAddr, Sem.run_bind, Sem.run_pure, Result.andThen_ok, run_load_at (hg w hC) hu hd hi, Oper.quietUpon, and_self]
end
end Go.Proofs.YtcmjgghkmdbphaaGreatDoor
