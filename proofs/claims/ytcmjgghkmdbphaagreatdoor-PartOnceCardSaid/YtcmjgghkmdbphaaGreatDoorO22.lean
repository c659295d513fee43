/- The reference's new ring, new state, new clock; the ring at a text. part's law: fresh. every record keeps the invariant (plain law). What the invariant of a state gives for the walks. state: Log, Ranges and the rest that is told. -/
import Derived.Test.YtcmjgghkmdbphaaGreatDoorO14
import Derived.Test.YtcmjgghkmdbphaaGreatDoorO11
import Derived.Test.YtcmjgghkmdbphaaGreatDoorO21
import Derived.Test.YtcmjgghkmdbphaaGreatDoorO19
import Derived.Test.YtcmjgghkmdbphaaGreatDoorO18
import Derived.Test.YtcmjgghkmdbphaaGreatDoorO02
set_option maxRecDepth 20000
set_option maxHeartbeats 25600000
namespace Go.Proofs.YtcmjgghkmdbphaaGreatDoor
open Go.RowKit
theorem rNewRing_any (N : Nat) (w : World) (hN : 1 ≤ N ∧ N ≤ 5) : Calls Tryz.prog 85 #[.int .i64 N] w fun e w' => GotRing w.heap.size N e w' ∧ Below w.heap.size w w' := by
 have HE := jh (show newR N = ((List.range N).map (newRange N), 0) from by unfold newR; rw [if_neg (by omega)]; rfl)
 have h1 : decide ((N : Int) < 1) = false := jd (by omega)
 have h2 : decide ((5 : Int) < (N : Int)) = false := jd (by omega)
 obtain ⟨N1, N2⟩ := hN
 go_enter Tryz.func85, Tryz.ntmps85
 go_wp2_with fail
 go_loopw [4, 5] (fun out i wr => ∃ k : Nat, k ≤ N ∧ i = .int .i64 (k + 1 : Nat) ∧ RangeR.Own wr w.heap.size 27 (fun _ => True) out ((List.range k).map (newRange N)) ∧ Below w.heap.size w wr) (fun _ i _ => N + 1 - (intOf i).toNat)
 case atStart => exact ⟨0, Nat.zero_le _, rfl, by simpa using Rep.Own.nil_, jb _ _⟩
 case round =>
  obtain ⟨k, hk, rfl, hout, hbl⟩ := hrel
  by_cases hlt : k < N
  ·have hlt' : ((k + 1 : Nat) : Int) ≤ (N : Int) := by omega
   have bd1 := begin_bd N k (by omega) (by omega)
   have bd2 := begin_bd N (k + 1) (by omega) (by omega)
   have hlen : ((List.range k).map (newRange (N : Int))).length = k := by simp
   obtain ⟨Ao, co, hu, _⟩ := hout.form
   rw [hlen] at hu
   subst hu
   have hrx : RangeR.rep wr (fun _ => False) [.int .i64 (beginR N k), .int .i64 (beginR N (k + 1) - 1), .int .i64 ((k : Int) + 1), .int .i64 1] (newRange N k) :=
    range_rep.2 ⟨rfl, show i64 (beginR N k) from ⟨by omega, by omega⟩, show i64 (beginR N (k + 1) - 1) from ⟨by omega, by omega⟩, show i64 ((k : Int) + 1) from ⟨by omega, by omega⟩, show i64 1 from ⟨by omega, by omega⟩⟩
   obtain ⟨i0, e1, e2, e3, e4⟩ := info_parts range_info
   have hwz := hbl.size
   have HBL := jh hbl
   obtain ⟨bd11, bd12⟩ := bd1
   obtain ⟨bd21, bd22⟩ := bd2
   have hwp : wrap64 (((k : Int) + 1) * 4294967296 / (N : Int) - 1) = ((k : Int) + 1) * 4294967296 / (N : Int) - 1 := wrap_in _ (by have e1 : beginR N (k + 1) = ((k : Int) + 1) * 4294967296 / (N : Int) := rfl; omega)
   clear hbl
   go_upto_region 7 with fail
   refine wp_region_mix (.seg [0, 1, 2, 3, 4, 5, 6, 7, 8, 9, 10, 11] 12 (.seg [] 13 (.seg [] 14 (.leaf [15])))) (fun w' => ∃ d : Wd (OnB w.heap.size wr), w' = d.w) (by kernel_rfl) (by kernel_rfl) (fun _ _ d _ _ h => by cases d <;> exact h) (ClsW.mk (jb _ _).drew) ?_
   unfold wpMix; simp only [pick, j1, j2, j3, j4]
   (repeat (show wpQuiet _ _ _ _ (_ :: _) _; go_big_quiet_step (fail))); refine qn ?_
   go_wp2_with fail
   (refine segw (D := OnB (w.heap.size) wr) ((jb _ _).drew) ?_; unfold wpMix; simp only [pick, j1, j2, j3, j4]; (repeat (show wpQuiet _ _ _ _ (_ :: _) _; go_big_quiet_step (fail))); refine qn ?_)
   go_wp2_with fail
   have hbn : Below wr.heap.size wr ((wr.alloc (.cells #[.int .i64 ((k : Int) * 4294967296 / (N : Int)), .int .i64 (((k : Int) + 1) * 4294967296 / (N : Int) - 1), .int .i64 ((k + 1 : Nat) : Int), .int .i64 1] 27)).drew) := by repeat (with_reducible first | assumption | exact jb _ _ | refine Below.al ?_ _ | refine Below.drew ?_ | apply Below.st1)
   have hrow := (Rep.Row.new1 (R := RangeR) (w := wr) (t := 27) (a := newRange N k) (P := fun _ => False) (cs := [.int .i64 (beginR N k), .int .i64 (beginR N (k + 1) - 1), .int .i64 ((k : Int) + 1), .int .i64 1]) hrx).ext ((jb _ _).drew)
   (refine segw (D := OnB (w.heap.size) wr) (hbn.mono hwz) ?_; unfold wpMix; simp only [pick, j1, j2, j3, j4]; (repeat (show wpQuiet _ _ _ _ (_ :: _) _; go_big_quiet_step (fail))); refine qn ?_)
   refine wpList_append_rep (R := RangeR) _ rfl (.tmp 17) (.tmp 30) _ rfl w.heap.size 27 i0 _ 32 Tryz.underlying58 e1 e2 e3 e4 rfl _ ((List.range k).map (newRange (N : Int))) (fun _ => True) rfl (hout.ext hbn) _ _ 1 [newRange N k] rfl hrow (fun g hg _ => ⟨trivial, fun e => by have h1 := (hout.lt g e.symm).2; rcases hg with hg | hg; exact hg; omega⟩) (by unfold maxLen; simp; omega) (by simp; omega) (Nat.le_trans hwz hbn.size) ?_
   intro v1 w6 ho1 hg1 hat1 hn1 hb6
   have hb6' : Below w.heap.size wr w6 := (hbn.mono hwz).trans hb6
   go_simp
   (refine segw (D := OnB (w.heap.size) wr) (hb6') ?_; unfold wpMix; simp only [pick, j1, j2, j3, j4]; (repeat (show wpQuiet _ _ _ _ (_ :: _) _; go_big_quiet_step (fail))); refine qn ?_)
   go_wp2_with fail
   go_round
   case rel =>
    refine ⟨k + 1, by omega, by go_num, ?_, HBL.out.trans hb6'⟩
    rw [List.range_succ, List.map_append]
    exact ho1
   case measure => simp [intOf]; omega
  ·have hkn : k = N := by omega
   subst hkn
   have hlt' : decide (((k + 1 : Nat) : Int) ≤ (k : Int)) = false := jd (by omega)
   go_wp2_with fail
   go_ret2
   refine ⟨⟨_, by rw [HE.out]; rfl, ?_⟩, hbl⟩
   rw [HE.out]
   exact hout.plain range_plain
theorem rHash_any (s : Str) (w : World) (hs : s.size ≤ 9223372036854775807) :
 Calls Tryz.prog 117 #[.string s] w fun e w' => e = .returned (.int .i64 (hashS s)) ∧ w = w' := by
 go_enter Tryz.func117, Tryz.ntmps117
 go_wp2
 go_loop [3, 4] (fun h i => ∃ k : Nat, k ≤ s.size ∧ i = .int .i64 k ∧ h = .int .u32 (hashL (s.data.toList.take k))) (fun _ i => s.size - (intOf i).toNat)
 case atStart => exact ⟨0, Nat.zero_le _, rfl, rfl⟩
 case round =>
  obtain ⟨k, hk, rfl, rfl⟩ := hrel
  by_cases hlt : k < s.size
  ·have hsn := hash_snoc (s.data.toList.take k) s[k]
   have hts := take_snocB s k hlt
   rw [← hts] at hsn
   have HS := jh hsn
   clear hsn hts
   go_wp2
   all_goals
    go_round
    case rel => exact ⟨k + 1, by omega, by go_num, by rw [HS.out, show ((s[k].toNat : Int)) % 4294967296 = s[k].toNat from by have := s[k].toNat_lt; omega]⟩
    case measure => simp [intOf]; omega
  ·have hb := hash_bd s.data.toList
   have h0 := hb.1
   have h1 := hb.2
   have ht : s.data.toList.take k = s.data.toList := List.take_of_length_le (by simp; omega)
   rw [ht]
   clear ht hb
   have HG := jh (show hashS s = hashL s.data.toList from rfl)
   generalize hashL s.data.toList = hh at *
   go_wp2
   go_ret
   exact ⟨by rw [HG.out]; rfl, rfl⟩
theorem rOf_any (A : Option Addr) (c : Nat) (l : List Range) (n : Str) (P : Nat → Prop) (w : World) (hr : RangeR.Row w P A l) (hs : soundR l = true) (hn : n.size ≤ 9223372036854775807) :
 Calls Tryz.prog 80 #[.slice A l.length c, .string n] w fun e w' => e = .returned (Found (ofR l n).1 (ofR l n).2) ∧ Below w.heap.size w w' := by
 have hb := hash_bd n.data.toList
 have hb0 := (jb w.heap.size w).al (.cells #[.int .i64 0, .int .i64 0, .int .i64 0, .int .i64 0] 27)
 have B0 := Blk.new w 27 [.int .i64 0, .int .i64 0, .int .i64 0, .int .i64 0]
 have C1 := rHash_any n (w.alloc (.cells #[.int .i64 0, .int .i64 0, .int .i64 0, .int .i64 0] 27)) hn
 have C2 := rfind_any A c l (hashS n) P (w.alloc (.cells #[.int .i64 0, .int .i64 0, .int .i64 0, .int .i64 0] 27)) (hr.ext hb0) hs hb.1 hb.2
 have H0 := jh (ja hb0 B0)
 clear hr hs hb hb0 B0
 unfold Found at C2
 unfold ofR
 generalize findR l (hashS n) = q at *
 obtain ⟨x, ok⟩ := q
 dsimp only at *
 go_enter Tryz.func80, Tryz.ntmps80
 go_wp2_with fail
 refine C1.mono ?_
 clear C1
 rintro e w' ⟨rfl, rfl⟩
 go_wp2_with fail
 refine C2.mono ?_
 clear C2
 rintro e w1 ⟨rfl, hb1⟩
 have B1 := H0.out.2.ext hb1
 have hw1 := H0.out.1.tr hb1
 have hlt := B1.lt
 have f0 := B1.frozen
 have b0 := B1.cell 0
 have b1 := B1.cell 1
 have b2 := B1.cell 2
 have b3 := B1.cell 3
 simp only [List.getElem?_cons_zero, List.getElem?_cons_succ] at b0 b1 b2 b3
 have HB := jh (ja B1 hw1)
 clear B1 hw1 hb1
 go_wp2_with fail
 exact bodyPost_ret (results_blk_tmp rfl _ ((((HB.out.1.set_ 0 (.int .i64 x.first)).set_ 1 (.int .i64 x.last)).set_ 2 (.int .i64 x.owner)).set_ 3 (.int .i64 x.epoch)) rfl Tryz.underlying27 rfl (by kernel_rfl)) rfl ⟨rfl, (((HB.out.2.st (Nat.le_refl _) _).st (Nat.le_refl _) _).st (Nat.le_refl _) _).st (Nat.le_refl _) _⟩
def GotPtr (B : Nat) (e : Ending) : Prop := ∃ g, e = .returned (.tuple #[.pointer (some ⟨g, 0, none⟩), .int .i64 0]) ∧ B ≤ g
theorem rNew_any (self : Int) (N : Nat) (w : World) (hN : 1 ≤ N ∧ N ≤ 5) (hs : 1 ≤ self ∧ self ≤ N) : Calls Tryz.prog 18 #[.int .i64 self, .int .i64 N] w fun e w' => GotPtr w.heap.size e ∧ Below w.heap.size w w' := by
 have C := rNewRing_any N w hN
 have HE := jh (show newR N = ((List.range N).map (newRange N), 0) from by unfold newR; rw [if_neg (by omega)]; rfl)
 unfold GotRing at C
 rw [HE.out] at C
 dsimp only at C
 obtain ⟨s1, s2⟩ := hs
 have h1 : decide (self < 1) = false := jd (by omega)
 have h2 : decide ((N : Int) < self) = false := jd (by omega)
 go_enter Tryz.func18, Tryz.ntmps18
 go_wp2_with fail
 refine C.mono ?_
 clear C
 rintro e w1 ⟨⟨v, rfl, ho⟩, hb⟩
 obtain ⟨A, c, rfl, _⟩ := ho.form
 clear ho
 have HB := jh hb
 have hz := hb.size
 clear hb
 go_wp2_with fail
 go_ret2
 exact ⟨⟨_, rfl, hz⟩, by have h := HB.out; repeat (with_reducible first | assumption | exact jb _ _ | refine Below.al ?_ _ | refine Below.drew ?_ | apply Below.st1)⟩
theorem rNewClock_any (w : World) : Calls Tryz.prog 76 #[.int .i64 1, .int .i64 1] w fun e w' => GotPtr w.heap.size e ∧ Below w.heap.size w w' := by
 go_enter Tryz.func76, Tryz.ntmps76
 go_wp2
 go_ret2
 exact ⟨⟨_, rfl, Nat.le_refl _⟩, (jb _ _).al _⟩
end Go.Proofs.YtcmjgghkmdbphaaGreatDoor
namespace Go.Proofs.YtcmjgghkmdbphaaGreatDoor
open Go.RowKit
def ck1 : Clk := ⟨0, ⟨1, 0, 1⟩⟩
theorem ck1_ok : ck1.Ok := ⟨by decide, by decide, by decide, by decide⟩
structure FrAt (B : Nat) (s0 : St) (wb g gc : Nat) (W : World) : Prop where
 hwb : B ≤ wb
 hg : B ≤ g
 hgc : B ≤ gc
 ne : g ≠ gc
 wne : wb ≠ gc
 st : StAt W (fun k => (B ≤ k ∧ k ≠ g) ∧ k < gc) g s0
 ck : CkAt W gc ck1
 c0 : W.cell? ⟨wb, 0, none⟩ = some (ptrV g)
 c1 : W.cell? ⟨wb, 1, none⟩ = some (ptrV gc)
def GotFresh (B : Nat) (s0 : St) (e : Ending) (w' : World) : Prop := ∃ wb g gc, e = .returned (.tuple #[.pointer (some ⟨wb, 0, none⟩), .bool true]) ∧ FrAt B s0 wb g gc w'
theorem fresh21_any (w : World) (s0 : St) (hs : newS 1 2 = some s0) : Calls Tryz.prog 63 #[] w fun e w' => GotFresh w.heap.size s0 e w' ∧ Below w.heap.size w w' := by
 have C1 := newState_any 1 2 w (i64_small 1 (by omega)) (i64_small 2 (by omega))
 unfold GotState at C1
 rw [hs] at C1
 dsimp only at C1
 clear hs
 go_enter Tryz.func63, Tryz.ntmps63
 go_wp2_with fail
 refine C1.mono ?_
 clear C1
 rintro e w1 ⟨⟨g, rfl, hg, hst, _⟩, hb1⟩
 have H1 := jh (ja hst hb1)
 have C2 := clkNew_any 1 1 w1 ⟨⟨by decide, by decide⟩, by decide, by decide⟩
 have hz1 := hb1.size
 clear hst hb1
 unfold ptrV
 go_wp2_with fail
 refine C2.mono ?_
 clear C2
 rintro e w2 ⟨rfl, hc2, hz2, hb2⟩
 have H2 := jh (ja hc2 (H1.out.2.tr hb2))
 have hst2 : StAt w2 (fun k => (w.heap.size ≤ k ∧ k ≠ g) ∧ k < w1.heap.size) g s0 := by
  obtain ⟨v, a, b⟩ := H1.out.1
  exact ⟨v, a.ext hb2, b.low.same (js hb2)⟩
 have hgl := H1.out.1.lt
 have HS := jh hst2
 clear hc2 hb2 hst2
 have C3 := rNew_any 1 2 w2 (by omega) (by omega)
 unfold GotPtr at C3
 go_wp2_with fail
 refine C3.mono ?_
 clear C3
 rintro e w3 ⟨⟨gm, rfl, hgm⟩, hb3⟩
 have H3 := jh hb3
 have hz3 := hb3.size
 clear hb3
 have C4 := rNewClock_any w3
 unfold GotPtr at C4
 go_wp2_with fail
 refine C4.mono ?_
 clear C4
 rintro e w4 ⟨⟨gd, rfl, hgd⟩, hb4⟩
 have H4 := jh (H3.out.tr hb4)
 have hz4 := hb4.size
 clear hb4
 go_wp2_with fail
 go_ret2
 have hbn := H4.out.al (.cells #[.pointer (some ⟨g, 0, none⟩), .pointer (some ⟨w1.heap.size, 0, none⟩), .pointer (some ⟨gm, 0, none⟩), .pointer (some ⟨gd, 0, none⟩)] 127)
 have B := Blk.new w4 127 [.pointer (some ⟨g, 0, none⟩), .pointer (some ⟨w1.heap.size, 0, none⟩), .pointer (some ⟨gm, 0, none⟩), .pointer (some ⟨gd, 0, none⟩)]
 refine ⟨⟨w4.heap.size, g, w1.heap.size, rfl, ?_⟩, H2.out.2.tr hbn⟩
 exact ⟨by omega, hg, by omega, by omega, by omega, by
  obtain ⟨v, a, b⟩ := HS.out
  exact ⟨v, a.ext hbn, b.same (js hbn)⟩, Blk.ext H2.out.1 hbn, B.cell 0, B.cell 1⟩
end Go.Proofs.YtcmjgghkmdbphaaGreatDoor
namespace Go.Proofs.YtcmjgghkmdbphaaGreatDoor
open Go.RowKit
theorem evT_nil (n : Str) : evT [] n = [] := rfl
theorem inv_new {self nodes : Int} {s : St} (h : newS self nodes = some s) : Inv s 0 := by
 unfold newS at h
 split at h
 ·cases h
 ·rename_i hc
  injection h with h
  subst h
  have hr : soundR (newR nodes).1 = true := by
   have : nodes = 1 ∨ nodes = 2 ∨ nodes = 3 ∨ nodes = 4 ∨ nodes = 5 := by omega
   rcases this with rfl | rfl | rfl | rfl | rfl <;> rfl
  refine ⟨?_, hr, Tab.Ok.nil_, by simp [heldD], fun n => by simp [heldD, evT_nil], fun n => by simp [heldD, kyT, getA], by simp [heldD], by simp, by simp, by simp, by simp, by simp⟩
  simp only []; omega
theorem HeldOk.of {s s' : St} {h : Held} (k : HeldOk s h) (h1 : ∀ p ∈ h.batch.puts, versionT s'.table p.stream = versionT s.table p.stream) (h2 : ∀ p ∈ h.batch.puts, servesS s' p.stream = true) (h3 : ∀ p ∈ h.batch.puts, ∀ f ∈ s'.frozen, f.range.has (hashS p.stream) = false) : HeldOk s' h :=
 ⟨k.check, by rw [k.firsts]; exact List.map_congr_left fun p hp => by rw [h1 p hp], h2, h3⟩
theorem Inv.same {s s' : St} {N : Nat} (h : Inv s N) (h1 : s'.self = s.self) (h2 : s'.nodes = s.nodes) (h3 : s'.ring = s.ring) (h4 : s'.table = s.table) (h5 : s'.held = s.held) (h6 : s'.frozen = s.frozen) (h7 : s'.log = s.log) : Inv s' N := by
 refine ⟨by rw [h1, h2]; exact h.self, by rw [h3]; exact h.ring, by rw [h4]; exact h.tab, by rw [h4, h5]; exact h.size, by rw [h4, h5]; exact h.evs, by rw [h4, h5]; exact h.kys, by rw [h7, h5]; exact h.log, ?_, by rw [h5]; exact h.apart, by rw [h5]; exact h.nd, by rw [h6, h3, h1]; exact h.frozen, by rw [h6]; exact h.fnd⟩
 intro p hp
 rw [h5] at hp
 have := h.held p hp
 exact this.of (fun q _ => by rw [h4]) (fun q hq => by have := this.serves q hq; unfold servesS at this ⊢; rw [h3, h1]; exact this) (by rw [h6]; exact this.warm)
theorem filter_len_le {α : Type} (p : α → Bool) (l : List α) : (l.filter p).length ≤ l.length := List.length_filter_le _ _
theorem Inv.put {s s' : St} {N : Nat} {b : Batch} {st : Stamp} (h : Inv s N) (hc : checkB b = 0) (hp : PutS s b st s') (hf : ∀ p ∈ s.held, ∀ a ∈ p.2.batch.puts, ∀ q ∈ b.puts, a.stream ≠ q.stream) : Inv s' (N + sumD b.puts) := by
 have hle := puts_le_sum (checkB_good hc).putOk
 have hm : (makeB b (firstsT s.table b.puts) st 0).length = sumD b.puts := makeF_sum _ _ _ _ _
 have hr := hp.rest
 have e5 : s'.held = s.held := by rw [hr]
 have e6 : s'.frozen = s.frozen := by rw [hr]
 have e3 : s'.ring = s.ring := by rw [hr]
 have e1 : s'.self = s.self := by rw [hr]
 refine ⟨by rw [hr]; exact h.self, by rw [hr]; exact h.ring, hp.ok, ?_, fun n => ?_, fun n => ?_, ?_, ?_, by rw [e5]; exact h.apart, by rw [e5]; exact h.nd, by rw [e6, e3, e1]; exact h.frozen, by rw [e6]; exact h.fnd⟩
 ·rw [e5]; have := hp.size; have := h.size; omega
 ·rw [e5, hp.evs, List.length_append]
  have h1 := filter_len_le (fun e => decide (e.stream = n)) (makeB b (firstsT s.table b.puts) st 0)
  have h2 := h.evs n
  omega
 ·rw [e5]; have := hp.kys n; have := h.kys n; omega
 ·rw [e5, hp.log, List.length_append]; have := h.log; omega
 ·intro p hpp
  rw [e5] at hpp
  have := h.held p hpp
  refine this.of (fun q hq => ?_) (fun q hq => by have := this.serves q hq; unfold servesS at this ⊢; rw [e3, e1]; exact this) (by rw [e6]; exact this.warm)
  rw [version_ev, version_ev, hp.evs, List.filter_eq_nil_iff.2, List.append_nil]
  intro e he
  obtain ⟨⟨q', hq', e1⟩, _⟩ := makeF_stream _ _ _ _ _ he
  simp only [decide_eq_true_eq]
  intro e2
  exact hf p hpp q hq q' hq' (e2.symm.trans e1.symm)
theorem busy_free {s : St} {b : Batch} (h : ∀ p ∈ b.puts, busyS s p.stream = false) : (∀ p ∈ s.held, ∀ a ∈ p.2.batch.puts, ∀ q ∈ b.puts, a.stream ≠ q.stream) ∧ ∀ q ∈ b.puts, ∀ f ∈ s.frozen, f.range.has (hashS q.stream) = false := by
 refine ⟨fun p hp a ha q hq e => ?_, fun q hq f hf => ?_⟩ <;>
 ·have := h q hq
  unfold busyS at this
  simp only [Bool.or_eq_false_iff, List.any_eq_false] at this
  first
   | exact this.2 p hp (by rw [List.any_eq_true]; exact ⟨a, ha, by simpa using e⟩)
   | simpa using this.1 f hf
theorem heldD_put {l : List (Tx × Held)} {tx : Tx} {h : Held} (hn : getA tx l = none) : heldD (putA tx h l) = heldD l + sumD h.batch.puts := by
 induction l with
 | nil => simp [putA, heldD]
 | cons p l ih =>
   obtain ⟨x, v⟩ := p
   unfold getA at hn
   split at hn
   ·cases hn
   ·rename_i hne
    unfold putA
    rw [if_neg hne]
    have := ih hn
    simp only [heldD, List.map_cons, List.sum_cons] at *
    omega
theorem heldD_del {l : List (Tx × Held)} {tx : Tx} {h : Held} (hn : getA tx l = some h) : heldD (delA tx l) + sumD h.batch.puts = heldD l := by
 induction l with
 | nil => cases hn
 | cons p l ih =>
   obtain ⟨x, v⟩ := p
   unfold getA at hn
   unfold delA
   split at hn
   ·rename_i hx
    injection hn with hn; subst hn
    rw [if_pos hx]
    simp only [heldD, List.map_cons, List.sum_cons]; omega
   ·rename_i hne
    rw [if_neg hne]
    have := ih hn
    simp only [heldD, List.map_cons, List.sum_cons] at *
    omega
theorem putA_new {κ β : Type} [DecidableEq κ] {k : κ} {v : β} {l : List (κ × β)} (h : getA k l = none) : putA k v l = l ++ [(k, v)] := by
 induction l with
 | nil => rfl
 | cons p l ih =>
   obtain ⟨x, u⟩ := p
   unfold getA at h
   split at h
   ·cases h
   ·rename_i hne
    unfold putA
    rw [if_neg hne, ih h]; rfl
theorem commit_inv {s : St} {N : Nat} {r : Rec} (h : Inv s N) (hN : N ≤ 1000000) (hst : soundB r.stamp = true) : Inv (commitS s r).1 (N + sumD r.batch.puts) := by
 unfold commitS
 split
 ·rename_i hz
  obtain ⟨h1, h2, h3, h4, h5⟩ := mayS_zero hz
  rw [h4]
  exact h.put h1 (putS_spec h.tab h1 hst fun n => by have := h.evs n; omega) (busy_free fun p hp => (h2 p hp).2).1
 ·exact h.mono (by omega)
theorem prepare_inv {s : St} {N : Nat} {r : Rec} (h : Inv s N) : Inv (prepareS s r).1 (N + sumD r.batch.puts) := by
 unfold prepareS
 split
 ·exact h.mono (by omega)
 ·rename_i hno
  split
  ·exact h.mono (by omega)
  ·split
   ·rename_i hz
    obtain ⟨h1, h2, h3, h4, h5⟩ := mayS_zero hz
    have hn : getA r.tx s.held = none := by
     cases h : getA r.tx s.held with
     | none => rfl
     | some x => rw [h] at hno; simp at hno
    have hd := heldD_put (h := ⟨r.tx, r.batch, r.stamp, (mayS s r.batch).1⟩) hn
    simp only at hd
    obtain ⟨b1, b2⟩ := busy_free fun p hp => (h2 p hp).2
    have hmem : ∀ {p : Tx × Held}, p ∈ putA r.tx ⟨r.tx, r.batch, r.stamp, (mayS s r.batch).1⟩ s.held → p ∈ s.held ∨ p = (r.tx, ⟨r.tx, r.batch, r.stamp, (mayS s r.batch).1⟩) := fun {p} hp => by
     rw [putA_new hn] at hp
     rcases List.mem_append.1 hp with hp | hp
     ·exact .inl hp
     ·exact .inr (by simpa using hp)
    refine ⟨h.self, h.ring, h.tab, ?_, fun n => ?_, fun n => ?_, ?_, fun p hp => ?_, ?_, putA_nodup h.nd, h.frozen, h.fnd⟩
    ·simp only [hd]; have := h.size; omega
    ·simp only [hd]; have := h.evs n; omega
    ·simp only [hd]; have := h.kys n; omega
    ·simp only [hd]; have := h.log; omega
    ·rcases hmem hp with hp | rfl
     ·exact (h.held p hp).of (fun _ _ => rfl) (h.held p hp).serves (h.held p hp).warm
     ·exact ⟨h1, h4, fun p hp => (h2 p hp).1, b2⟩
    ·show (putA _ _ _).Pairwise _
     rw [putA_new hn, List.pairwise_append]
     refine ⟨h.apart, by simp, fun p hp q hq => ?_⟩
     simp only [List.mem_singleton] at hq
     subst hq
     exact b1 p hp
   ·exact h.mono (by omega)
theorem undo_inv {s : St} {N : Nat} {tx : Tx} {hd : Held} (h : Inv s N) (hg : getA tx s.held = some hd) (dec : List (Tx × Int)) : ∃ M, M + sumD hd.batch.puts = N ∧ Inv { s with held := delA tx s.held, decided := dec } M ∧ ∀ p ∈ delA tx s.held, ∀ a ∈ p.2.batch.puts, ∀ q ∈ hd.batch.puts, a.stream ≠ q.stream := by
 have hs := heldD_del hg
 have h1 := h.size
 refine ⟨N - sumD hd.batch.puts, by omega, ?_, ?_⟩
 ·have hsub := delA_sub tx s.held
  refine ⟨h.self, h.ring, h.tab, by simp only []; omega, fun n => by have := h.evs n; simp only []; omega, fun n => by have := h.kys n; simp only []; omega, by have := h.log; simp only []; omega, fun p hp => ?_, h.apart.sublist hsub, delA_nodup h.nd, h.frozen, h.fnd⟩
  have := h.held p (hsub.subset hp)
  exact this.of (fun _ _ => rfl) this.serves this.warm
 ·have hap := h.apart
  have hnd := h.nd
  clear hs h1
  generalize s.held = l at *
  induction l with
  | nil => cases hg
  | cons p l ih =>
    obtain ⟨x, v⟩ := p
    rw [List.pairwise_cons] at hap
    simp only [List.map_cons, List.nodup_cons] at hnd
    unfold getA at hg
    unfold delA
    split at hg
    ·rename_i hx
     injection hg with hg; subst hg
     rw [if_pos hx]
     exact fun p hp a ha q hq e => hap.1 p hp q hq a ha e.symm
    ·rename_i hne
     rw [if_neg hne]
     intro p hp
     rcases List.mem_cons.1 hp with rfl | hp
     ·exact fun a ha q hq => hap.1 _ (getA_mem hg) a ha q hq
     ·exact ih hg hap.2 hnd.2 p hp
theorem decide_inv {s : St} {N : Nat} {r : Rec} (h : Inv s N) (hN : N ≤ 1000000) (hst : soundB r.stamp = true) : Inv (decideS s r).1 N := by
 unfold decideS
 cases hg : getA r.tx s.held with
 | none => exact h
 | some hd =>
   obtain ⟨M, hM, hI, hF⟩ := undo_inv h hg (putA r.tx 1 s.decided)
   have hh := h.held _ (getA_mem hg)
   dsimp only
   split
   ·have e : hd.firsts = firstsT s.table hd.batch.puts := hh.firsts
    have := hI.put hh.check (putS_spec (st := r.stamp) hI.tab hh.check hst fun n => by have := hI.evs n; omega) hF
    rw [hM] at this
    rw [e]
    exact this
   ·exact hI.mono (by omega)
theorem outcome_inv {s : St} {N : Nat} {r : Rec} (h : Inv s N) : Inv (outcomeS s r).1 N := by
 unfold outcomeS
 split
 ·exact h
 ·split
  ·exact h
  ·exact h.same rfl rfl rfl rfl rfl rfl rfl
theorem forget_inv {s : St} {N : Nat} {r : Rec} (h : Inv s N) : Inv (forgetS s r).1 N := by
 unfold forgetS
 split
 ·exact h
 ·exact h.same rfl rfl rfl rfl rfl rfl rfl
theorem iced_neg {s : St} {k : Int} (h : ¬ 0 ≤ icedS s k) : ∀ f ∈ s.frozen, f.range.has k = false := by
 unfold icedS at h
 rcases idxI_spec (fun f : Rec => f.range.has k) s.frozen with ⟨_, hn⟩ | ⟨a, x, b, _, _, _, hi⟩
 ·exact hn
 ·rw [hi] at h; omega
theorem split_inv {s : St} {N : Nat} {r : Rec} (h : Inv s N) : Inv (splitS s r).1 N := by
 unfold splitS
 split
 ·exact h
 ·rename_i hc
  split
  ·exact h
  ·rename_i hc2
   simp only [not_or] at hc hc2
   split
   ·rename_i hz
    obtain ⟨a, x, b, hl, hx, hne, he, hs, _⟩ := split_spec hz
    have hice := iced_neg hc2.1
    have hf : (findR s.ring r.n).1 = x := by
     obtain ⟨m1, m2, _⟩ := find_mem (by simpa using hc.1 : (findR s.ring r.n).2 = true)
     exact soundFrom_uniq (sound_iff.1 h.ring).1 m1 (by rw [hl]; simp) m2 hx
    have hown : x.owner = s.self := by rw [← hf]; simpa using hc.2
    refine ⟨h.self, hs, h.tab, h.size, h.evs, h.kys, h.log, fun p hp => ?_, h.apart, h.nd, fun f hf => ?_, h.fnd⟩
    ·have hh := h.held p hp
     refine hh.of (fun _ _ => rfl) (fun q hq => ?_) hh.warm
     have := hh.serves q hq
     rw [serves_iff h.ring] at this
     rw [serves_iff hs]
     obtain ⟨y, hy, hy1, hy2⟩ := this
     show ∃ x ∈ (splitR s.ring r.n).1, _
     rw [he]
     rw [hl] at hy
     rcases List.mem_append.1 hy with hy | hy
     ·exact ⟨y, by simp [hy], hy1, hy2⟩
     ·rcases List.mem_cons.1 hy with rfl | hy
      ·rw [has_iff] at hy1
       by_cases hh : hashS q.stream < r.n
       ·exact ⟨{ y with last := r.n - 1, epoch := y.epoch + 1 }, by simp, has_iff.2 ⟨hy1.1, by simp only []; omega⟩, hy2⟩
       ·exact ⟨{ y with first := r.n, epoch := y.epoch + 1 }, by simp, has_iff.2 ⟨by simp only []; omega, hy1.2⟩, hy2⟩
      ·exact ⟨y, by simp [hy], hy1, hy2⟩
    ·obtain ⟨f1, f2, f3⟩ := h.frozen f hf
     refine ⟨?_, f2, f3⟩
     show f.range ∈ (splitR s.ring r.n).1
     rw [he]
     rw [hl] at f1
     rcases List.mem_append.1 f1 with hy | hy
     ·simp [hy]
     ·rcases List.mem_cons.1 hy with e | hy
      ·have := hice f hf
       rw [e, hx] at this; cases this
      ·simp [hy]
   ·exact h
theorem locked_false {s : St} {r : Range} (h : ¬ lockedS s r = true) : ∀ p ∈ s.held, ∀ q ∈ p.2.batch.puts, r.has (hashS q.stream) = false := by
 intro p hp q hq
 cases hc : r.has (hashS q.stream) with
 | false => rfl
 | true =>
   exact (h (by unfold lockedS; rw [List.any_eq_true]; exact ⟨p, hp, by rw [List.any_eq_true]; exact ⟨q, hq, hc⟩⟩)).elim
theorem freeze_inv {s : St} {N : Nat} {r : Rec} (h : Inv s N) : Inv (freezeS s r).1 N := by
 unfold freezeS
 split
 ·exact h
 ·rename_i hc
  split
  ·exact h
  ·rename_i hc2
   split
   ·exact h
   ·rename_i hc3
    simp only [not_or, Decidable.not_not] at hc hc2 hc3
    have hl := locked_false hc2.2
    have hice := iced_neg hc2.1
    refine ⟨h.self, h.ring, h.tab, h.size, h.evs, h.kys, h.log, fun p hp => ?_, h.apart, h.nd, fun f hf => ?_, ?_⟩
    ·have hh := h.held p hp
     refine hh.of (fun _ _ => rfl) hh.serves (fun q hq f hf => ?_)
     rcases List.mem_append.1 hf with hf | hf
     ·exact hh.warm q hq f hf
     ·simp only [List.mem_singleton] at hf; subst hf
      exact hl p hp q hq
    ·rcases List.mem_append.1 hf with hf | hf
     ·exact h.frozen f hf
     ·simp only [List.mem_singleton] at hf; subst hf
      exact ⟨hc.1, hc.2, hc3.2.2⟩
    ·show ((s.frozen ++ [r]).map Rec.range).Nodup
     rw [List.map_append, List.nodup_append]
     refine ⟨h.fnd, by simp, fun x hx y hy e => ?_⟩
     simp only [List.map_cons, List.map_nil, List.mem_singleton] at hy
     subst hy; subst e
     obtain ⟨f, hf, e⟩ := List.mem_map.1 hx
     have := hice f hf
     rw [e] at this
     have hm := soundFrom_mem (sound_iff.1 h.ring).1 hc.1
     rw [has_iff.2 ⟨Int.le_refl _, hm.2.1⟩] at this; cases this
theorem foldl_del {T : Tab} (l : List Str) (hT : (T.map (·.1)).Nodup) (n : Str) : (n ∈ l → getA n (l.foldl (fun T n => delA n T) T) = none) ∧ (n ∉ l → getA n (l.foldl (fun T n => delA n T) T) = getA n T) := by
 induction l generalizing T with
 | nil => simp
 | cons x l ih =>
   rw [List.foldl_cons]
   obtain ⟨i1, i2⟩ := ih (delA_nodup (k := x) hT)
   rw [getA_del hT] at i2
   by_cases h1 : n ∈ l
   ·exact ⟨fun _ => i1 h1, fun q => (q (by simp [h1])).elim⟩
   ·rw [i2 h1]
    by_cases h2 : n = x
    ·simp [h2]
    ·simp [h1, h2]
theorem foldl_del_sub {T : Tab} (l : List Str) : (l.foldl (fun T n => delA n T) T).Sublist T := by
 induction l generalizing T with
 | nil => exact List.Sublist.refl _
 | cons x l ih => rw [List.foldl_cons]; exact ih.trans (delA_sub x T)
theorem drop_get {T : Tab} (hT : T.Ok) (r : Range) (n : Str) : getA n (dropT T r) = if inR r n = true then none else getA n T := by
 unfold dropT
 obtain ⟨h3, h4⟩ := foldl_del (someT T r) hT.nd n
 unfold someT at h3 h4 ⊢
 simp only [List.mem_filter, mem_sort] at h3 h4
 by_cases h1 : inR r n = true
 ·rw [if_pos h1]
  by_cases h2 : n ∈ T.map (·.1)
  ·exact h3 ⟨h2, h1⟩
  ·rw [h4 (fun q => h2 q.1)]; exact getA_none.2 h2
 ·rw [if_neg h1]; exact h4 (fun q => h1 q.2)
theorem drop_ok {T : Tab} (hT : T.Ok) (r : Range) : (dropT T r).Ok ∧ (dropT T r).length ≤ T.length := by
 have hs := foldl_del_sub (T := T) (someT T r)
 exact ⟨⟨hT.nd.sublist (hs.map _), fun p hp => hT.each p (hs.subset hp)⟩, hs.length_le⟩
theorem drop_ev {T : Tab} (hT : T.Ok) (r : Range) (n : Str) : evT (dropT T r) n = (if inR r n = true then [] else evT T n) ∧ kyT (dropT T r) n = (if inR r n = true then [] else kyT T n) := by
 unfold evT kyT
 rw [drop_get hT]
 by_cases h : inR r n = true <;> simp [h]
theorem putT_zero {l : List Stream} {T T' : Tab} (h : (putT l T).2 = 0) : okPut [] l = true ∧ putT l T' = (putAll l T', 0) := by
 unfold putT at h ⊢
 split at h
 ·rename_i h1; exact ⟨h1, if_pos h1⟩
 ·cases h
theorem putAll_len {l : List Stream} {T : Tab} : (putAll l T).length ≤ T.length + l.length := by
 unfold putAll
 induction l generalizing T with
 | nil => simp
 | cons s l ih =>
   rw [List.foldl_cons, List.length_cons]
   have h1 := ih (T := putA s.name ⟨s.events, keysOf s.keys⟩ T)
   have h2 := putA_len s.name (⟨s.events, keysOf s.keys⟩ : TS) T
   omega
theorem keysOf_len (l : List Known) : (keysOf l).length ≤ l.length := by
 have : ∀ (l : List Known) (m : List (Str × Known)), (l.foldl (fun m k => putA k.key k m) m).length ≤ m.length + l.length := by
  intro l
  induction l with
  | nil => simp
  | cons k l ih =>
    intro m
    rw [List.foldl_cons, List.length_cons]
    have h1 := ih (putA k.key k m)
    have h2 := putA_len k.key k m
    omega
 have h := this l []
 rwa [List.length_nil, Nat.zero_add] at h
def streamsD (l : List Stream) : Nat := (l.map fun s => s.events.length + s.keys.length + 1).sum
theorem streamsD_mem {l : List Stream} {s : Stream} (h : s ∈ l) : s.events.length + s.keys.length + 1 ≤ streamsD l := by
 unfold streamsD
 induction l with
 | nil => cases h
 | cons x l ih =>
   simp only [List.map_cons, List.sum_cons]
   rcases List.mem_cons.1 h with rfl | h
   ·omega
   ·have := ih h; omega
theorem streamsD_len (l : List Stream) : l.length ≤ streamsD l := by
 unfold streamsD
 induction l with
 | nil => simp
 | cons x l ih => simp only [List.map_cons, List.sum_cons, List.length_cons]; omega
theorem putAll_ev {l : List Stream} {T : Tab} (hn : (l.map Stream.name).Nodup) (n : Str) : (∃ s ∈ l, s.name = n ∧ evT (putAll l T) n = s.events ∧ kyT (putAll l T) n = keysOf s.keys) ∨ ((∀ s ∈ l, s.name ≠ n) ∧ evT (putAll l T) n = evT T n ∧ kyT (putAll l T) n = kyT T n) := by
 by_cases h : n ∈ l.map Stream.name
 ·obtain ⟨s, hs, rfl⟩ := List.mem_map.1 h
  left
  refine ⟨s, hs, rfl, ?_, ?_⟩
  ·unfold evT; rw [putAll_in hn hs]; rfl
  ·unfold kyT; rw [putAll_in hn hs]; rfl
 ·right
  refine ⟨fun s hs e => h (List.mem_map.2 ⟨s, hs, e⟩), ?_, ?_⟩
  ·unfold evT; rw [putAll_out h]
  ·unfold kyT; rw [putAll_out h]
theorem newer_iff {s : St} {r : Range} : newerS s r = true ↔ r.owner = s.self ∧ ∀ x ∈ s.ring, ¬ (r.first ≤ r.last ∧ x.first ≤ r.last ∧ r.first ≤ x.last ∧ (x.owner = s.self ∨ r.epoch ≤ x.epoch)) := by
 unfold newerS
 simp only [Bool.and_eq_true, decide_eq_true_eq, List.all_eq_true, Bool.not_eq_true', Bool.and_eq_false_iff, Bool.or_eq_false_iff, decide_eq_false_iff_not]
 constructor
 ·rintro ⟨h1, h2⟩
  refine ⟨h1, fun x hx q => ?_⟩
  have := h2 x hx
  omega
 ·rintro ⟨h1, h2⟩
  refine ⟨h1, fun x hx => ?_⟩
  have := h2 x hx
  omega
theorem span_iff {r : Range} : spanB r = true ↔ r.first ≤ r.last ∧ r.last ≤ 4294967295 ∧ 1 ≤ r.epoch ∧ r.epoch ≤ 1099511627776 := by
 simp only [spanB, Bool.and_eq_true, decide_eq_true_eq]
theorem install_inv {s : St} {N : Nat} {r : Rec} (h : Inv s N) (hsp : 0 ≤ r.range.first) : Inv (installS s r).1 (N + streamsD r.streams) := by
 unfold installS
 split
 ·exact h.mono (by omega)
 ·rename_i hnew
  split
  ·exact h.mono (by omega)
  ·rename_i hc
   split
   ·exact h.mono (by omega)
   ·rename_i hlen
    simp only [not_or, Decidable.not_not] at hc
    obtain ⟨c1, c2, c3⟩ := hc
    obtain ⟨hok, hput⟩ := putT_zero (T' := dropT (freshT s.table) r.range) c3
    obtain ⟨o1, o2, _⟩ := (okPut_iff _ _).1 hok
    have hnw := newer_iff.1 (by simpa using hnew)
    have hsn := span_iff.1 (by simpa using c1)
    have hself := h.self
    have hring : soundR (aroundR s.ring r.range) = true := around_ok h.ring hsp hsn.1 hsn.2.1 (ownedB_iff.2 ⟨by omega, by omega, hsn.2.2.1, hsn.2.2.2⟩) (by omega)
    have hin : ∀ x ∈ r.streams, r.range.has (hashS x.name) = true := fun x hx => by
     cases hq : r.range.has (hashS x.name) with
     | true => rfl
     | false => exact (c2 (by rw [List.any_eq_true]; exact ⟨x, hx, by rw [hq]; rfl⟩)).elim
    have hout : ∀ x ∈ s.ring, x.owner = s.self → x.last < r.range.first ∨ r.range.last < x.first := fun x hx e => by
     have := hnw.2 x hx
     omega
    obtain ⟨hL, hO⟩ := fresh_like hashS_bd h.tab
    obtain ⟨f1, f2⟩ := fresh_len h.tab
    obtain ⟨d1, d2⟩ := drop_ok hO r.range
    rw [hput]
    dsimp only
    have hev : ∀ n, (evT (putAll r.streams (dropT (freshT s.table) r.range)) n).length ≤ (evT s.table n).length + streamsD r.streams ∧ (kyT (putAll r.streams (dropT (freshT s.table) r.range)) n).length ≤ (kyT s.table n).length + streamsD r.streams := fun n => by
     rcases putAll_ev (T := dropT (freshT s.table) r.range) o2 n with ⟨x, hx, _, e1, e2⟩ | ⟨_, e1, e2⟩
     ·have := streamsD_mem hx
      have := keysOf_len x.keys
      rw [e1, e2]; omega
     ·have h1 := drop_ev hO r.range n
      have h2 := like_ev hL n
      have h3 := f2 n
      rw [e1, e2, h1.1, h1.2, h2]
      split
      ·simp
      ·omega
    have hsv : ∀ n, servesS s n = true → servesS { s with ring := aroundR s.ring r.range, table := putAll r.streams (dropT (freshT s.table) r.range) } n = true ∧ r.range.has (hashS n) = false := fun n hn => by
     rw [serves_iff h.ring] at hn
     obtain ⟨x, hx, h1, h2⟩ := hn
     have hno : r.range.has (hashS n) = false := by
      cases hq : r.range.has (hashS n) with
      | false => rfl
      | true => rw [has_iff] at hq h1; have := hout x hx h2; omega
     refine ⟨?_, hno⟩
     rw [serves_iff hring]
     obtain ⟨y, hy, y1, y2, _⟩ := around_out hx h1 hno
     exact ⟨y, hy, y1, y2.trans h2⟩
    refine ⟨h.self, hring, putAll_ok d1 o1, ?_, fun n => ?_, fun n => ?_, ?_, fun p hp => ?_, h.apart, h.nd, fun f hf => ?_, h.fnd⟩
    ·have := putAll_len (l := r.streams) (T := dropT (freshT s.table) r.range)
     have := streamsD_len r.streams
     have := h.size
     simp only []; omega
    ·have := (hev n).1; have := h.evs n; simp only []; omega
    ·have := (hev n).2; have := h.kys n; simp only []; omega
    ·have := h.log; simp only []; omega
    ·have hh := h.held p hp
     refine hh.of (fun q hq => ?_) (fun q hq => (hsv _ (hh.serves q hq)).1) hh.warm
     have hno := (hsv _ (hh.serves q hq)).2
     simp only [version_ev]
     rcases putAll_ev (T := dropT (freshT s.table) r.range) o2 q.stream with ⟨x, hx, e, _⟩ | ⟨_, e1, _⟩
     ·have := hin x hx
      rw [e, hno] at this; cases this
     ·rw [e1, (drop_ev hO r.range q.stream).1, if_neg (by unfold inR; rw [hno]; simp), like_ev hL]
    ·obtain ⟨a1, a2, a3⟩ := h.frozen f hf
     refine ⟨List.mem_flatMap.2 ⟨f.range, a1, ?_⟩, a2, a3⟩
     have hm := soundFrom_mem (sound_iff.1 h.ring).1 a1
     rcases hout _ a1 a2 with ho | ho
     ·unfold aroundX
      dsimp only
      rw [if_pos (show f.range.first ≤ min f.range.last (r.range.first - 1) by omega), show min f.range.last (r.range.first - 1) = f.range.last by omega]
      simp
     ·unfold aroundX
      dsimp only
      rw [if_pos (show max f.range.first (r.range.last + 1) ≤ f.range.last by omega), show max f.range.first (r.range.last + 1) = f.range.first by omega]
      simp
theorem eraseIdx_of_split {α : Type} (a b : List α) (x : α) : (a ++ x :: b).eraseIdx a.length = a ++ b := by
 induction a with
 | nil => rfl
 | cons y a ih => simp [ih]
theorem release_inv {s : St} {N : Nat} {r : Rec} (h : Inv s N) : Inv (releaseS s r).1 N := by
 unfold releaseS
 dsimp only
 split
 ·exact h
 ·rename_i hi
  split
  ·exact h
  ·rename_i hc
   split
   ·exact h
   ·rename_i hz
    simp only [Decidable.not_not] at hz
    obtain ⟨a, x, b, hl, e1, e2, he, hs, _, ho⟩ := set_spec hz
    rcases idxI_spec (fun f : Rec => decide (f.range.first = r.range.first) && decide (f.range.last = r.range.last)) s.frozen with ⟨hn, _⟩ | ⟨fa, fx, fb, hfl, _, hfx, hfi⟩
    ·rw [hn] at hi; exact absurd (by omega) hi
    ·simp only [Bool.and_eq_true, decide_eq_true_eq] at hfx
     have hx : x ∈ s.ring := by rw [hl]; simp
     have hxm := soundFrom_mem (sound_iff.1 h.ring).1 hx
     have hfr := h.frozen fx (by rw [hfl]; simp)
     have hfe : fx.range = x := soundFrom_uniq (sound_iff.1 h.ring).1 hfr.1 hx (k := x.first) (has_iff.2 (by omega)) (has_iff.2 (by omega))
     have hera : s.frozen.eraseIdx (idxI (fun f : Rec => decide (f.range.first = r.range.first) && decide (f.range.last = r.range.last)) s.frozen).toNat = fa ++ fb := by
      rw [hfi, hfl]; exact eraseIdx_of_split fa fb fx
     rw [hera]
     have hsub : ∀ f, f ∈ fa ++ fb → f ∈ s.frozen := fun f hf => by
      rw [hfl]
      rcases List.mem_append.1 hf with hf | hf <;> simp [hf]
     have hnd := h.fnd
     rw [hfl, List.map_append, List.map_cons, List.nodup_append] at hnd
     obtain ⟨n1, n2, n3⟩ := hnd
     rw [List.nodup_cons] at n2
     obtain ⟨hL, hO⟩ := fresh_like hashS_bd h.tab
     obtain ⟨f1, f2⟩ := fresh_len h.tab
     obtain ⟨d1, d2⟩ := drop_ok hO r.range
     have hev : ∀ n, (evT (dropT (freshT s.table) r.range) n).length ≤ (evT s.table n).length ∧ (kyT (dropT (freshT s.table) r.range) n).length ≤ (kyT s.table n).length := fun n => by
      have h1 := drop_ev hO r.range n
      have h2 := like_ev hL n
      have h3 := f2 n
      rw [h1.1, h1.2, h2]
      split
      ·simp
      ·omega
     refine ⟨h.self, hs, d1, ?_, fun n => ?_, fun n => ?_, h.log, fun p hp => ?_, h.apart, h.nd, fun f hf => ?_, ?_⟩
     ·have := h.size; simp only []; omega
     ·have := (hev n).1; have := h.evs n; simp only []; omega
     ·have := (hev n).2; have := h.kys n; simp only []; omega
     ·have hh := h.held p hp
      have hno : ∀ q ∈ p.2.batch.puts, r.range.has (hashS q.stream) = false := fun q hq => by
       have := hh.warm q hq fx (by rw [hfl]; simp)
       cases hq : r.range.has (hashS q.stream) with
       | false => rfl
       | true => rw [has_iff] at hq; rw [has_iff.2 (by omega)] at this; cases this
      refine hh.of (fun q hq => ?_) (fun q hq => ?_) (fun q hq f hf => hh.warm q hq f (hsub f hf))
      ·simp only [version_ev]
       rw [(drop_ev hO r.range q.stream).1, if_neg (by unfold inR; rw [hno q hq]; simp), like_ev hL]
      ·have := hh.serves q hq
       rw [serves_iff h.ring] at this
       rw [serves_iff hs]
       obtain ⟨y, hy, y1, y2⟩ := this
       refine ⟨y, ?_, y1, y2⟩
       show y ∈ (setR s.ring r.range).1
       rw [he]
       rw [hl] at hy
       rcases List.mem_append.1 hy with hy | hy
       ·simp [hy]
       ·rcases List.mem_cons.1 hy with rfl | hy
        ·have := hno q hq
         rw [has_iff] at y1
         rw [has_iff.2 (by omega)] at this; cases this
        ·simp [hy]
     ·obtain ⟨a1, a2, a3⟩ := h.frozen f (hsub f hf)
      refine ⟨?_, a2, a3⟩
      show f.range ∈ (setR s.ring r.range).1
      rw [he]
      rw [hl] at a1
      rcases List.mem_append.1 a1 with hy | hy
      ·simp [hy]
      ·rcases List.mem_cons.1 hy with e | hy
       ·exfalso
        rcases List.mem_append.1 hf with hf | hf
        ·exact n3 f.range (List.mem_map.2 ⟨f, hf, rfl⟩) fx.range (by simp) (by rw [e, hfe])
        ·exact n2.1 (List.mem_map.2 ⟨f, hf, by rw [e, hfe]⟩)
       ·simp [hy]
     ·show ((fa ++ fb).map Rec.range).Nodup
      rw [List.map_append, List.nodup_append]
      exact ⟨n1, n2.2, fun x hx y hy => n3 x hx y (by simp [hy])⟩
theorem apply_inv {s : St} {N : Nat} {r : Rec} (h : Inv s N) (hN : N ≤ 1000000) : Inv (applyS s r).1 (N + costR r) := by
 unfold applyS
 split
 ·exact h.mono (by omega)
 ·rename_i hc
  simp only [Decidable.not_not] at hc
  have hk := checkR_kind hc
  have e : costR r = sumD r.batch.puts + streamsD r.streams := rfl
  unfold doS
  split
  ·unfold lifeS; split
   ·exact h.mono (by omega)
   ·exact Inv.mono (Inv.same (s := s) h rfl rfl rfl rfl rfl rfl rfl) (by omega)
  split
  ·unfold ceilS; split
   ·exact h.mono (by omega)
   ·exact Inv.mono (Inv.same (s := s) h rfl rfl rfl rfl rfl rfl rfl) (by omega)
  split
  ·rename_i k; exact (commit_inv h hN (checkR_batch hc (.inl k)).2).mono (by omega)
  split
  ·exact (prepare_inv h).mono (by omega)
  split
  ·rename_i k; exact (decide_inv h hN (checkR_stamp hc (.inl k))).mono (by omega)
  split
  ·exact (outcome_inv h).mono (by omega)
  split
  ·exact (forget_inv h).mono (by omega)
  split
  ·exact (split_inv h).mono (by omega)
  split
  ·exact (freeze_inv h).mono (by omega)
  split
  ·rename_i k; exact (install_inv h (checkR_span hc (.inr (.inl k))).1).mono (by omega)
  ·exact (release_inv h).mono (by omega)
end Go.Proofs.YtcmjgghkmdbphaaGreatDoor
namespace Go.Proofs.YtcmjgghkmdbphaaGreatDoor
open Go.RowKit
theorem nodup_sub_len {α : Type} [BEq α] [LawfulBEq α] {l m : List α} (hn : l.Nodup) (h : ∀ x ∈ l, x ∈ m) : l.length ≤ m.length := by
 induction l generalizing m with
 | nil => simp
 | cons x l ih =>
   simp only [List.nodup_cons] at hn
   have hx := h x (by simp)
   have := ih (m := m.erase x) hn.2 fun y hy => (List.mem_erase_of_ne (fun e : y = x => hn.1 (e ▸ hy))).2 (h y (by simp [hy]))
   rw [List.length_erase_of_mem hx] at this
   have hp : 0 < m.length := List.length_pos_of_mem hx
   rw [List.length_cons]; omega
theorem sound_few {l : List Range} (h : soundR l = true) : l.length ≤ 64 := (sound_iff.1 h).2
theorem i64_of {n : Int} (h : -9000000000000000000 ≤ n ∧ n ≤ 9000000000000000000) : i64 n := ⟨by omega, by omega⟩
theorem sound_fit {s : Stamp} (h : soundB s = true) : s.fit := by
 simp only [soundB, withinB, Bool.and_eq_true, decide_eq_true_eq] at h
 exact ⟨i64_of (by omega), i64_of (by omega), i64_of (by omega)⟩
theorem knownB_fit {k : Known} (h : knownB k = true) : k.fit := by
 obtain ⟨_, h2, h3, h4, h5⟩ := knownB_iff.1 h
 have := keyB_short h2
 exact ⟨by unfold sfit; omega, i64_of (by omega), sound_fit h5⟩
theorem zeroKnown_fit : zeroKnown.fit := ⟨by show (0 : Nat) ≤ _; omega, show i64 0 from i64_of (by omega), ⟨show i64 0 from i64_of (by omega), show i64 0 from i64_of (by omega), show i64 0 from i64_of (by omega)⟩⟩
theorem keys_len {s : TS} {n : Str} (h : s.Ok n) : (streamOf n s).keys.length = s.keys.length := by
 have := congrArg List.length (keys_fst h)
 rw [List.length_map] at this
 rw [this, (sort_perm _).length_eq, List.length_map]
theorem Inv.fit {s : St} {N : Nat} (h : Inv s N) (hN : N ≤ 39000) : Fit s := by
 have hself := h.self
 refine ⟨by omega, by have := sound_few h.ring; omega, fun n => ?_, fun n k => ?_, ?_, ?_, fun x hx => ?_⟩
 ·rw [version_ev]; have := h.evs n; omega
 ·rw [known_ky]
  cases hq : getA k (kyT s.table n) with
  | none => exact zeroKnown_fit
  | some x => exact knownB_fit ((ev_ok h.tab n).2.2.1 _ (getA_mem hq)).2.1
 ·have hsz := h.size
  have hev : ∀ p ∈ s.table, p.2.events.length ≤ 39000 ∧ p.2.keys.length ≤ 39000 := fun p hp => by
   have hg := getA_of_mem h.tab.nd (show (p.1, p.2) ∈ s.table from hp)
   have h1 := h.evs p.1
   have h2 := h.kys p.1
   unfold evT at h1
   unfold kyT at h2
   rw [hg] at h1 h2
   simp only at h1 h2
   omega
  refine ⟨by omega, fun p hp => ⟨by have := (hev p hp).1; omega, by have := (hev p hp).2; omega⟩, ⟨?_, fun x hx => ?_⟩, by have := h.log; omega, fun n => ?_⟩
  ·have h1 : (takeT s.table allHashes).length = (someT s.table allHashes).length := by rw [← take_names]; simp
   have h2 : (someT s.table allHashes).length ≤ s.table.length := by
    unfold someT
    refine Nat.le_trans (List.length_filter_le _ _) ?_
    rw [(sort_perm _).length_eq, List.length_map]; exact Nat.le_refl _
   omega
  ·obtain ⟨t, ht, he, _⟩ := (mem_take h.tab).1 hx
   have h1 := hev _ (getA_mem ht)
   have h2 := keys_len (getA_ok h.tab ht)
   rw [he]
   have h3 : (streamOf x.name t).events = t.events := rfl
   rw [h3, h2]
   simp only at h1
   omega
  ·obtain ⟨hL, _⟩ := fresh_like hashS_bd h.tab
   rw [TS.Like.version hL, version_ev]
   have := h.evs n; omega
 ·have h1 : (s.frozen.map Rec.range).length ≤ s.ring.length := nodup_sub_len h.fnd fun x hx => by
   obtain ⟨f, hf, rfl⟩ := List.mem_map.1 hx
   exact (h.frozen f hf).1
  have := sound_few h.ring
  rw [List.length_map] at h1; omega
 ·have hh := h.held x hx
  have hg := checkB_good hh.check
  refine ⟨hg.few, fun p hp => ⟨(hg.puts p hp).1.1, List.length_pos_iff.2 (hg.puts p hp).2.2.1⟩, ?_, fun n hn => ?_⟩
  ·rw [hh.firsts]; unfold firstsT; rw [List.length_map]; have := hg.few; omega
  ·rw [hh.firsts] at hn
   unfold firstsT at hn
   obtain ⟨p, hp, rfl⟩ := List.mem_map.1 hn
   rw [version_ev]; have := h.evs p.stream; omega
end Go.Proofs.YtcmjgghkmdbphaaGreatDoor
namespace Go.Proofs.YtcmjgghkmdbphaaGreatDoor
open Go.RowKit
theorem sranges_any (g : Nat) (s : St) (P : Nat → Prop) (w : World) (h : StAt w P g s) (hs : s.self ≠ 0) (hl : s.ring.length ≤ 1000000) : Calls Tryz.prog 37 #[ptrV g] w fun e w' => GotOwn RangeR w.heap.size 27 (fun _ => False) s.ring e w' ∧ Below w.heap.size w w' := by
 obtain ⟨v, hB, hI⟩ := h
 have b0 : w.cell? ⟨g, 0, none⟩ = some (.int .i64 s.self) := hB.cell 0
 have b4 : w.cell? ⟨g, 4, none⟩ = some v.ring := hB.cell 4
 have C1 := gone_any g s.self w b0 hs
 obtain ⟨A, c, hv, hc1, hc2, hrow⟩ := hI.ring
 have hvl : v.ring = .slice A s.ring.length c := by injection hv
 rw [hvl] at b4
 have C2 := clone_Range A c s.ring P w hrow (by omega)
 unfold GotOwn at C2
 clear hB hI hv hvl hrow hc1 hc2 hl b0
 unfold ptrV at C1 ⊢
 go_enter Tryz.func37, Tryz.ntmps37
 go_wp2_with fail
 refine C1.mono ?_
 clear C1
 rintro e w' ⟨rfl, rfl⟩
 go_wp2_with fail
 refine C2.mono ?_
 clear C2 b4
 rintro e w' ⟨⟨v2, rfl, hv2⟩, hb2⟩
 have HV := jh (ja hv2 hb2)
 obtain ⟨A2, c2, rfl, _⟩ := hv2.form
 clear hv2 hb2
 go_wp2_with fail
 go_ret
 exact ⟨⟨_, rfl, HV.out.1.plain range_plain⟩, HV.out.2⟩
end Go.Proofs.YtcmjgghkmdbphaaGreatDoor
