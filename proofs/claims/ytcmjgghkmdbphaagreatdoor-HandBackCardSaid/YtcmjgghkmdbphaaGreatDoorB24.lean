/- The reference's new ring, new state, new clock; the ring at a text. hand's law: made, with no records. part's law: awake. A struct out of a row, by an operation with a guard that holds. hand's law: awake. The laws' own names: Round, Stream. HandBack: what is computed. hand.Release: a range has gone. hand.may, hand.has. -/
import Derived.Test.YtcmjgghkmdbphaaGreatDoorB23
import Derived.Test.YtcmjgghkmdbphaaGreatDoorB11
import Derived.Test.YtcmjgghkmdbphaaGreatDoorB22
import Derived.Test.YtcmjgghkmdbphaaGreatDoorB08
import Derived.Test.YtcmjgghkmdbphaaGreatDoorB12
import Derived.Test.YtcmjgghkmdbphaaGreatDoorB20
import Derived.Laws.BytesArg
set_option maxRecDepth 20000
set_option maxHeartbeats 25600000
namespace Go.Proofs.YtcmjgghkmdbphaaGreatDoor
open Go.RowKit
theorem rNewRing_any (N : Nat) (w : World) (hN : 1 ≤ N ∧ N ≤ 5) : Calls Tryz.prog 85 #[.int .i64 N] w fun e w' => GotRing w.heap.size N e w' ∧ Below w.heap.size w w' := by
 have HE := jh (show newR N = ((List.range N).map (newRange N), 0) from by unfold newR; rw [if_neg (by omega)]; rfl)
 have h1 : decide ((N : Int) < 1) = false := jd (by omega)
 have h2 : decide ((5 : Int) < (N : Int)) = false := jd (by omega)
 obtain ⟨N1, N2⟩ := hN
 go_enter Tryz.func85, Tryz.ntmps85
 go_wp2_with fail
 go_loopw [4, 5] (fun out i wr => ∃ k : Nat, k ≤ N ∧ i = .int .i64 (k + 1 : Nat) ∧ RangeR.Own wr w.heap.size 27 (fun _ => True) out ((List.range k).map (newRange N)) ∧ Below w.heap.size w wr) (fun _ i _ => N + 1 - (intOf i).toNat)
 case atStart => exact ⟨0, Nat.zero_le _, rfl, by simpa using Rep.Own.nil_, jb _ _⟩
 case round =>
  obtain ⟨k, hk, rfl, hout, hbl⟩ := hrel
  by_cases hlt : k < N
  ·have hlt' : ((k + 1 : Nat) : Int) ≤ (N : Int) := by omega
   have bd1 := begin_bd N k (by omega) (by omega)
   have bd2 := begin_bd N (k + 1) (by omega) (by omega)
   have hlen : ((List.range k).map (newRange (N : Int))).length = k := by simp
   obtain ⟨Ao, co, hu, _⟩ := hout.form
   rw [hlen] at hu
   subst hu
   have hrx : RangeR.rep wr (fun _ => False) [.int .i64 (beginR N k), .int .i64 (beginR N (k + 1) - 1), .int .i64 ((k : Int) + 1), .int .i64 1] (newRange N k) :=
    range_rep.2 ⟨rfl, show i64 (beginR N k) from ⟨by omega, by omega⟩, show i64 (beginR N (k + 1) - 1) from ⟨by omega, by omega⟩, show i64 ((k : Int) + 1) from ⟨by omega, by omega⟩, show i64 1 from ⟨by omega, by omega⟩⟩
   obtain ⟨i0, e1, e2, e3, e4⟩ := info_parts range_info
   have hwz := hbl.size
   have HBL := jh hbl
   obtain ⟨bd11, bd12⟩ := bd1
   obtain ⟨bd21, bd22⟩ := bd2
   have hwp : wrap64 (((k : Int) + 1) * 4294967296 / (N : Int) - 1) = ((k : Int) + 1) * 4294967296 / (N : Int) - 1 := wrap_in _ (by have e1 : beginR N (k + 1) = ((k : Int) + 1) * 4294967296 / (N : Int) := rfl; omega)
   clear hbl
   go_upto_region 7 with fail
   refine wp_region_mix (.seg [0, 1, 2, 3, 4, 5, 6, 7, 8, 9, 10, 11] 12 (.seg [] 13 (.seg [] 14 (.leaf [15])))) (fun w' => ∃ d : Wd (OnB w.heap.size wr), w' = d.w) (by kernel_rfl) (by kernel_rfl) (fun _ _ d _ _ h => by cases d <;> exact h) (ClsW.mk (jb _ _).drew) ?_
   unfold wpMix; simp only [pick, j1, j2, j3, j4]
   (repeat (show wpQuiet _ _ _ _ (_ :: _) _; go_big_quiet_step (fail))); refine qn ?_
   go_wp2_with fail
   (refine segw (D := OnB (w.heap.size) wr) ((jb _ _).drew) ?_; unfold wpMix; simp only [pick, j1, j2, j3, j4]; (repeat (show wpQuiet _ _ _ _ (_ :: _) _; go_big_quiet_step (fail))); refine qn ?_)
   go_wp2_with fail
   have hbn : Below wr.heap.size wr ((wr.alloc (.cells #[.int .i64 ((k : Int) * 4294967296 / (N : Int)), .int .i64 (((k : Int) + 1) * 4294967296 / (N : Int) - 1), .int .i64 ((k + 1 : Nat) : Int), .int .i64 1] 27)).drew) := by repeat (with_reducible first | assumption | exact jb _ _ | refine Below.al ?_ _ | refine Below.drew ?_ | apply Below.st1)
   have hrow := (Rep.Row.new1 (R := RangeR) (w := wr) (t := 27) (a := newRange N k) (P := fun _ => False) (cs := [.int .i64 (beginR N k), .int .i64 (beginR N (k + 1) - 1), .int .i64 ((k : Int) + 1), .int .i64 1]) hrx).ext ((jb _ _).drew)
   (refine segw (D := OnB (w.heap.size) wr) (hbn.mono hwz) ?_; unfold wpMix; simp only [pick, j1, j2, j3, j4]; (repeat (show wpQuiet _ _ _ _ (_ :: _) _; go_big_quiet_step (fail))); refine qn ?_)
   refine wpList_append_rep (R := RangeR) _ rfl (.tmp 17) (.tmp 30) _ rfl w.heap.size 27 i0 _ 32 Tryz.underlying58 e1 e2 e3 e4 rfl _ ((List.range k).map (newRange (N : Int))) (fun _ => True) rfl (hout.ext hbn) _ _ 1 [newRange N k] rfl hrow (fun g hg _ => ⟨trivial, fun e => by have h1 := (hout.lt g e.symm).2; rcases hg with hg | hg; exact hg; omega⟩) (by unfold maxLen; simp; omega) (by simp; omega) (Nat.le_trans hwz hbn.size) ?_
   intro v1 w6 ho1 hg1 hat1 hn1 hb6
   have hb6' : Below w.heap.size wr w6 := (hbn.mono hwz).trans hb6
   go_simp
   (refine segw (D := OnB (w.heap.size) wr) (hb6') ?_; unfold wpMix; simp only [pick, j1, j2, j3, j4]; (repeat (show wpQuiet _ _ _ _ (_ :: _) _; go_big_quiet_step (fail))); refine qn ?_)
   go_wp2_with fail
   go_round
   case rel =>
    refine ⟨k + 1, by omega, by go_num, ?_, HBL.out.trans hb6'⟩
    rw [List.range_succ, List.map_append]
    exact ho1
   case measure => simp [intOf]; omega
  ·have hkn : k = N := by omega
   subst hkn
   have hlt' : decide (((k + 1 : Nat) : Int) ≤ (k : Int)) = false := jd (by omega)
   go_wp2_with fail
   go_ret2
   refine ⟨⟨_, by rw [HE.out]; rfl, ?_⟩, hbl⟩
   rw [HE.out]
   exact hout.plain range_plain
theorem rHash_any (s : Str) (w : World) (hs : s.size ≤ 9223372036854775807) :
 Calls Tryz.prog 117 #[.string s] w fun e w' => e = .returned (.int .i64 (hashS s)) ∧ w = w' := by
 go_enter Tryz.func117, Tryz.ntmps117
 go_wp2
 go_loop [3, 4] (fun h i => ∃ k : Nat, k ≤ s.size ∧ i = .int .i64 k ∧ h = .int .u32 (hashL (s.data.toList.take k))) (fun _ i => s.size - (intOf i).toNat)
 case atStart => exact ⟨0, Nat.zero_le _, rfl, rfl⟩
 case round =>
  obtain ⟨k, hk, rfl, rfl⟩ := hrel
  by_cases hlt : k < s.size
  ·have hsn := hash_snoc (s.data.toList.take k) s[k]
   have hts := take_snocB s k hlt
   rw [← hts] at hsn
   have HS := jh hsn
   clear hsn hts
   go_wp2
   all_goals
    go_round
    case rel => exact ⟨k + 1, by omega, by go_num, by rw [HS.out, show ((s[k].toNat : Int)) % 4294967296 = s[k].toNat from by have := s[k].toNat_lt; omega]⟩
    case measure => simp [intOf]; omega
  ·have hb := hash_bd s.data.toList
   have h0 := hb.1
   have h1 := hb.2
   have ht : s.data.toList.take k = s.data.toList := List.take_of_length_le (by simp; omega)
   rw [ht]
   clear ht hb
   have HG := jh (show hashS s = hashL s.data.toList from rfl)
   generalize hashL s.data.toList = hh at *
   go_wp2
   go_ret
   exact ⟨by rw [HG.out]; rfl, rfl⟩
theorem rOf_any (A : Option Addr) (c : Nat) (l : List Range) (n : Str) (P : Nat → Prop) (w : World) (hr : RangeR.Row w P A l) (hs : soundR l = true) (hn : n.size ≤ 9223372036854775807) :
 Calls Tryz.prog 80 #[.slice A l.length c, .string n] w fun e w' => e = .returned (Found (ofR l n).1 (ofR l n).2) ∧ Below w.heap.size w w' := by
 have hb := hash_bd n.data.toList
 have hb0 := (jb w.heap.size w).al (.cells #[.int .i64 0, .int .i64 0, .int .i64 0, .int .i64 0] 27)
 have B0 := Blk.new w 27 [.int .i64 0, .int .i64 0, .int .i64 0, .int .i64 0]
 have C1 := rHash_any n (w.alloc (.cells #[.int .i64 0, .int .i64 0, .int .i64 0, .int .i64 0] 27)) hn
 have C2 := rfind_any A c l (hashS n) P (w.alloc (.cells #[.int .i64 0, .int .i64 0, .int .i64 0, .int .i64 0] 27)) (hr.ext hb0) hs hb.1 hb.2
 have H0 := jh (ja hb0 B0)
 clear hr hs hb hb0 B0
 unfold Found at C2
 unfold ofR
 generalize findR l (hashS n) = q at *
 obtain ⟨x, ok⟩ := q
 dsimp only at *
 go_enter Tryz.func80, Tryz.ntmps80
 go_wp2_with fail
 refine C1.mono ?_
 clear C1
 rintro e w' ⟨rfl, rfl⟩
 go_wp2_with fail
 refine C2.mono ?_
 clear C2
 rintro e w1 ⟨rfl, hb1⟩
 have B1 := H0.out.2.ext hb1
 have hw1 := H0.out.1.tr hb1
 have hlt := B1.lt
 have f0 := B1.frozen
 have b0 := B1.cell 0
 have b1 := B1.cell 1
 have b2 := B1.cell 2
 have b3 := B1.cell 3
 simp only [List.getElem?_cons_zero, List.getElem?_cons_succ] at b0 b1 b2 b3
 have HB := jh (ja B1 hw1)
 clear B1 hw1 hb1
 go_wp2_with fail
 exact bodyPost_ret (results_blk_tmp rfl _ ((((HB.out.1.set_ 0 (.int .i64 x.first)).set_ 1 (.int .i64 x.last)).set_ 2 (.int .i64 x.owner)).set_ 3 (.int .i64 x.epoch)) rfl Tryz.underlying27 rfl (by kernel_rfl)) rfl ⟨rfl, (((HB.out.2.st (Nat.le_refl _) _).st (Nat.le_refl _) _).st (Nat.le_refl _) _).st (Nat.le_refl _) _⟩
def GotPtr (B : Nat) (e : Ending) : Prop := ∃ g, e = .returned (.tuple #[.pointer (some ⟨g, 0, none⟩), .int .i64 0]) ∧ B ≤ g
theorem rNew_any (self : Int) (N : Nat) (w : World) (hN : 1 ≤ N ∧ N ≤ 5) (hs : 1 ≤ self ∧ self ≤ N) : Calls Tryz.prog 18 #[.int .i64 self, .int .i64 N] w fun e w' => GotPtr w.heap.size e ∧ Below w.heap.size w w' := by
 have C := rNewRing_any N w hN
 have HE := jh (show newR N = ((List.range N).map (newRange N), 0) from by unfold newR; rw [if_neg (by omega)]; rfl)
 unfold GotRing at C
 rw [HE.out] at C
 dsimp only at C
 obtain ⟨s1, s2⟩ := hs
 have h1 : decide (self < 1) = false := jd (by omega)
 have h2 : decide ((N : Int) < self) = false := jd (by omega)
 go_enter Tryz.func18, Tryz.ntmps18
 go_wp2_with fail
 refine C.mono ?_
 clear C
 rintro e w1 ⟨⟨v, rfl, ho⟩, hb⟩
 obtain ⟨A, c, rfl, _⟩ := ho.form
 clear ho
 have HB := jh hb
 have hz := hb.size
 clear hb
 go_wp2_with fail
 go_ret2
 exact ⟨⟨_, rfl, hz⟩, by have h := HB.out; repeat (with_reducible first | assumption | exact jb _ _ | refine Below.al ?_ _ | refine Below.drew ?_ | apply Below.st1)⟩
end Go.Proofs.YtcmjgghkmdbphaaGreatDoor
namespace Go.Proofs.YtcmjgghkmdbphaaGreatDoor
open Go.RowKit
def GotMade (B : Nat) (s0 : St) (e : Ending) (w' : World) : Prop := ∃ g gm, e = .returned (.tuple #[.pointer (some ⟨g, 0, none⟩), .pointer (some ⟨gm, 0, none⟩)]) ∧ B ≤ g ∧ ∃ n, n ≤ w'.heap.size ∧ StAt w' (fun k => (B ≤ k ∧ k ≠ g) ∧ k < n) g s0
theorem made23_any (i : Int) (w : World) (s0 : St) (hi : 1 ≤ i ∧ i ≤ 2) (hs : newS i 2 = some s0) : Calls Tryz.prog 44 #[.int .i64 i, .int .i64 2, .slice none 0 0] w fun e w' => GotMade w.heap.size s0 e w' ∧ Below w.heap.size w w' := by
 obtain ⟨hi1, hi2⟩ := hi
 have C1 := newState_any i 2 w (i64_small i (by omega)) (i64_small 2 (by omega))
 unfold GotState at C1
 rw [hs] at C1
 dsimp only at C1
 clear hs
 go_enter Tryz.func44, Tryz.ntmps44
 go_wp2_with fail
 refine C1.mono ?_
 clear C1
 rintro e w1 ⟨⟨g, rfl, hg, hst, _⟩, hb1⟩
 have H1 := jh (ja hst hb1)
 have hz1 := hb1.size
 clear hst hb1
 have C3 := rNew_any i 2 w1 (by omega) (by omega)
 unfold GotPtr at C3
 unfold ptrV
 go_wp2_with fail
 refine C3.mono ?_
 clear C3
 rintro e w3 ⟨⟨gm, rfl, hgm⟩, hb3⟩
 have H3 := jh hb3
 clear hb3
 go_wp2_with fail
 go_loopw [12] (fun iv wr => iv = .int .i64 0 ∧ wr = w3) (fun _ _ => 0)
 case atStart => exact ⟨rfl, rfl⟩
 case round =>
  obtain ⟨rfl, rfl⟩ := hrel
  go_wp2_with fail
  go_ret2
  exact ⟨⟨g, gm, rfl, hg, w1.heap.size, H3.out.size, by
   obtain ⟨v, a, b⟩ := H1.out.1
   exact ⟨v, a.ext H3.out, b.low.same (js H3.out)⟩⟩, H1.out.2.tr H3.out⟩
end Go.Proofs.YtcmjgghkmdbphaaGreatDoor
namespace Go.Proofs.YtcmjgghkmdbphaaGreatDoor
open Go.RowKit
def frS : St := ⟨1, 2, 0, 0, (newR 2).1, [], [], [], [], [], []⟩
theorem fr_new : newS 1 2 = some frS := by kernel_rfl
theorem fr_fit : Fit frS := (inv_new fr_new).fit (by decide)
theorem Rep.Row.blk {α : Type} {R : Rep α} {w : World} {g : Nat} {t : TypeId} {cs : List Value} {P : Nat → Prop} {a : α} (h : Blk w g t cs) (hr : R.rep w P cs a) : R.Row w (fun k => P k ∨ k = g) (some ⟨g, 0, none⟩) [a] := fun _ => by
 refine ⟨g, 0, rfl, .inr rfl, h.lt, fun i b hi => ?_⟩
 match i, hi with
 | 0, hi =>
   simp at hi; subst hi
   exact ⟨cs, R.mono hr fun k hk _ => .inl hk, fun j u hu => by rw [h.cell]; simpa using hu⟩
end Go.Proofs.YtcmjgghkmdbphaaGreatDoor
namespace Go.Proofs.YtcmjgghkmdbphaaGreatDoor
open Go.RowKit
theorem wpList_load_atG {P : Program} {ops : Array Oper} {rest : List Oper} {o : Oper} {a : Act} {w : World} {Q : Exit → Act → World → Prop} (hgd : Region.wanted o (yielded ops a.tmps) = true) {ty : TypeId} {x : Operand} (ho : o.op = .load ty x) {b off : Nat} (hx : a.eval x = .pointer (some ⟨b, off, none⟩)) {cs : List Value} {d : TypeDesc}
 (hg : ∀ j u, cs[j]? = some u → w.cell? ⟨b, off + j, none⟩ = some u) (hu : P.underlying ty = some d) (hd : (match d with | .struct _ | .array _ _ => true | _ => false) = true) (hi : (P.info? ty).map (·.size) = some cs.length)
 (h : wpList P ops Q rest (a.put o.dst (.agg cs.toArray)) w) : wpList P ops Q (o :: rest) a w := by
 refine wpList_step fun K' hK' => ?_
 rw [if_pos hgd]
 have hl : (loadCells ⟨b, off, none⟩ cs.length).run P w = .ok cs.toArray w :=
  run_loadCells_list (P := P) w ⟨b, off, none⟩ cs (fun j v hv => by rw [add_off]; exact hg j v hv)
 have hr : (loadVar ty ⟨b, off, none⟩).run P w = .ok (.agg cs.toArray) w := by
  cases hq : P.info? ty with
  | none => simp [hq] at hi
  | some i =>
    have hs : i.size = cs.length := by simpa [hq] using hi
    have hagg : (isAgg ty).run P w = .ok true w := by
     unfold isAgg
     rw [Sem.run_bind, run_underlying hu w]
     cases d <;> simp_all
    simp [loadVar, Sem.run_bind, hagg, sizeOf, typeInfo, hq, hs, hl]
 unfold Oper.wp execOp
 simp only [ho, hx, Instr.loadAt, Instr.sureAddr, Sem.run_bind, Sem.run_pure, Result.andThen_ok, hr]
 exact hK' _ _ h
end Go.Proofs.YtcmjgghkmdbphaaGreatDoor
namespace Go.Proofs.YtcmjgghkmdbphaaGreatDoor
open Go.RowKit
def hw1 : Range := ⟨0, 2147483647, 1, 1⟩
def fzS : St := (applyS frS (frzR hw1 2)).1
theorem hw_x : frzX frS 0 = hw1 := by kernel_rfl
theorem hw_i : frzI frS 0 = 0 := by kernel_rfl
theorem hw_code : (applyS frS (frzR hw1 0)).2 = 1 := by kernel_rfl
theorem hw_code2 : (applyS frS (frzR hw1 2)).2 = 0 := by kernel_rfl
theorem hw_lock : lockedS frS hw1 = false := by kernel_rfl
theorem hw_take : takeT frS.table hw1 = [] := by kernel_rfl
theorem hw_copies : copiesP fzS ⟨5, 0, 1⟩ = [⟨⟨0, 2147483647, 2, 2⟩, ⟨5, 0, 1⟩, []⟩] := by kernel_rfl
theorem hw_fresh : freshT frS.table = [] := by kernel_rfl
theorem hw_ring : frS.ring = [hw1, ⟨2147483648, 4294967295, 2, 1⟩] := by kernel_rfl
theorem hw_fit : hw1.fit := ⟨⟨by decide, by decide⟩, ⟨by decide, by decide⟩, ⟨by decide, by decide⟩, ⟨by decide, by decide⟩⟩
theorem hw_fits : ∀ x ∈ frS.ring, x.fit := by
 rw [hw_ring]
 intro x hx
 simp only [List.mem_cons, List.not_mem_nil, or_false] at hx
 rcases hx with rfl | rfl
 ·exact hw_fit
 ·exact ⟨⟨by decide, by decide⟩, ⟨by decide, by decide⟩, ⟨by decide, by decide⟩, ⟨by decide, by decide⟩⟩
theorem hw_frozen : fzS.frozen = [frzR hw1 2] := by kernel_rfl
theorem fz_fit : Fit fzS := (apply_inv (r := frzR hw1 2) (inv_new fr_new) (by decide)).fit (by decide)
theorem hw_ok : frzOk frS 0 ∧ weighs frS (frzX frS 0) ≤ 30000 ∧ (takeT frS.table (frzX frS 0)).length ≤ 1000 := by
 refine ⟨⟨by rw [hw_i]; decide, by rw [hw_x, hw_code]; decide, by rw [hw_x]; exact hw_lock⟩, ?_, ?_⟩
 ·unfold weighs; rw [hw_x, hw_take]; decide
 ·rw [hw_x, hw_take]; decide
theorem hw_freeze {e : Ending} (h : GotFreeze frS 0 2 e) : e = .returned (.tuple #[.agg (frzV hw1 2).toArray, .int .i64 0]) := by
 rcases h with ⟨_, _, _, hn⟩ | ⟨h, _⟩
 ·exact absurd hw_ok hn
 ·rw [hw_x] at h; exact h
theorem awake23_any (w : World) (hT : Tabs w) (h2 : 2 ≤ w.heap.size) : Calls Tryz.prog 43 #[] w fun e w' => e = .returned (.bool true) ∧ Below w.heap.size w w' := by
 have C1 := made23_any 1 w frS (by omega) fr_new
 unfold GotMade at C1
 have HT := jh hT
 clear hT
 go_enter Tryz.func43, Tryz.ntmps43
 go_wp2_with fail
 refine C1.mono ?_
 clear C1
 rintro e w1 ⟨⟨g, gm, rfl, hg, n, hn, hst⟩, hb1⟩
 have hgl := hst.lt
 have hz1 := hb1.size
 have C2 := freezeH_any g frS 0 2 _ w1 hst fr_fit (by decide) (HT.out.below hb1) (by omega) (by rw [hw_ring]; decide) (by rw [hw_fresh]; decide) hw_fits
 have H1 := jh (ja hst hb1)
 clear hst hb1
 unfold ptrV at C2
 go_wp2_with fail
 refine C2.mono ?_
 clear C2
 rintro e w2 ⟨hgot, hb2⟩
 obtain rfl := hw_freeze hgot
 have H2 := jh (ja (H1.out.2.tr hb2) (show StAt w2 (fun k => ((w.heap.size ≤ k ∧ k ≠ g) ∧ k < n) ∧ k < w1.heap.size) g frS from by obtain ⟨v, a, b⟩ := H1.out.1; exact ⟨v, a.ext hb2, b.low.same (js hb2)⟩))
 have hz2 := hb2.size
 clear hb2 hgot
 unfold frzV
 go_upto_region 5 with (first
  | (refine wpList_store_new (cs := #[.int .i64 9, .int .i64 0, .int .i64 2, .bool false, .int .i64 0, .int .i64 0, .int .i64 0, .int .i64 0, .int .i64 0, .int .i64 0, .slice none 0 0, .string ⟨#[]⟩, .slice none 0 0, .int .i64 hw1.first, .int .i64 hw1.last, .int .i64 hw1.owner, .int .i64 hw1.epoch, .slice none 0 0]) rfl rfl rfl rfl rfl (by kernel_rfl) rfl (by simp [Value.oneCell']) ?_)
  | fail)
 have hb3 := (jb w2.heap.size w2).al (.cells #[.int .i64 9, .int .i64 0, .int .i64 2, .bool false, .int .i64 0, .int .i64 0, .int .i64 0, .int .i64 0, .int .i64 0, .int .i64 0, .slice none 0 0, .string ⟨#[]⟩, .slice none 0 0, .int .i64 hw1.first, .int .i64 hw1.last, .int .i64 hw1.owner, .int .i64 hw1.epoch, .slice none 0 0] 46)
 have HR3 := jh (Blk.new w2 46 [.int .i64 9, .int .i64 0, .int .i64 2, .bool false, .int .i64 0, .int .i64 0, .int .i64 0, .int .i64 0, .int .i64 0, .int .i64 0, .slice none 0 0, .string ⟨#[]⟩, .slice none 0 0, .int .i64 hw1.first, .int .i64 hw1.last, .int .i64 hw1.owner, .int .i64 hw1.epoch, .slice none 0 0])
 have HB3 := jh hb3
 generalize w2.alloc (.cells #[.int .i64 9, .int .i64 0, .int .i64 2, .bool false, .int .i64 0, .int .i64 0, .int .i64 0, .int .i64 0, .int .i64 0, .int .i64 0, .slice none 0 0, .string ⟨#[]⟩, .slice none 0 0, .int .i64 hw1.first, .int .i64 hw1.last, .int .i64 hw1.owner, .int .i64 hw1.epoch, .slice none 0 0] 46) = w3 at *
 have hz3 := hb3.size
 clear hb3
 have hst3 : StAt w3 (fun k => (((w.heap.size ≤ k ∧ k ≠ g) ∧ k < n) ∧ k < w1.heap.size) ∧ k < w2.heap.size) g frS := by
  obtain ⟨v, a, b⟩ := H2.out.2
  exact ⟨v, a.ext HB3.out, b.low.same (js HB3.out)⟩
 have C3 := applyH_any g frS (frzR hw1 2) (.inr (.inl rfl)) none none none 0 0 0 _ (fun _ => False) w3 hst3 (fun h => h.1.1.1.2 rfl) fr_fit (frz_at hw_fit (i64_small 2 (by omega))) (fun h => h) frz_fair (HT.out.below (H2.out.1.tr HB3.out)) (by omega) frz_put (by rw [hw_ring]; decide) (by rw [hw_fresh]; decide)
 unfold StOut at C3
 rw [frz_cells, hw_code2] at C3
 unfold frzV ptrV at C3
 clear hst3
 have HCS := jh (show ∀ (j : Nat) (u : Value), ([.int .i64 9, .int .i64 0, .int .i64 2, .bool false, .int .i64 0, .int .i64 0, .int .i64 0, .int .i64 0, .int .i64 0, .int .i64 0, .slice none 0 0, .string ⟨#[]⟩, .slice none 0 0, .int .i64 hw1.first, .int .i64 hw1.last, .int .i64 hw1.owner, .int .i64 hw1.epoch, .slice none 0 0] : List Value)[j]? = some u → w3.cell? ⟨w2.heap.size, 0 + j, none⟩ = some u from fun j u h => by rw [Nat.zero_add, HR3.out.cell]; exact h)
 go_wp2_with (first
  | ((with_reducible refine wpList_load_atG rfl rfl ?_ HCS.out Tryz.underlying46 rfl (by kernel_rfl) ?_); · rfl)
  | fail)
 refine C3.mono ?_
 clear C3
 rintro e w4 ⟨rfl, hst4, hO4⟩
 have hgw : ¬ (w.heap.size + 0 > g) := by omega
 have hb4 : Below w.heap.size w w4 := (H2.out.1.tr HB3.out).trans (hO4.low (fun k e => by have e' : k = g := e; omega) (by have := H2.out.1.size; omega))
 have HST4 := jh (show StAt w4 (fun k => ((((w.heap.size ≤ k ∧ k ≠ g) ∧ k < n) ∧ k < w1.heap.size) ∧ k < w2.heap.size) ∨ w3.heap.size ≤ k) g fzS from hst4)
 have HB4 := jh hb4
 clear hb4 hst4 hO4 hgw
 have C4 := copies_any g fzS ⟨5, 0, 1⟩ _ w4 HST4.out fz_fit ⟨⟨by decide, by decide⟩, ⟨by decide, by decide⟩, ⟨by decide, by decide⟩⟩ (by rw [hw_frozen]; decide) (fun f hf => by rw [hw_frozen] at hf; rcases List.mem_singleton.1 hf with rfl; exact ⟨by decide, by decide⟩)
 rw [hw_copies] at C4
 unfold GotOwn ptrV at C4
 go_wp2_with fail
 refine C4.mono ?_
 clear C4
 rintro e w5 ⟨⟨v, rfl, ho⟩, hb5⟩
 obtain ⟨A, q, rfl, _⟩ := ho.form
 obtain ⟨b, o, cs, rfl, _, hbw, hrep, hcs⟩ := (ho.row (fun _ hk => hk)).at_ (show ([⟨⟨0, 2147483647, 2, 2⟩, ⟨5, 0, 1⟩, []⟩] : List Copy)[0]? = some ⟨⟨0, 2147483647, 2, 2⟩, ⟨5, 0, 1⟩, []⟩ from rfl)
 obtain ⟨A', q', rfl, _⟩ := copy_rep.1 hrep
 have c0 : w5.cell? ⟨b, o, none⟩ = some (.int .i64 0) := by simpa using hcs 0 _ rfl
 have c1 : w5.cell? ⟨b, o + 1, none⟩ = some (.int .i64 2147483647) := by simpa using hcs 1 _ rfl
 have c2 : w5.cell? ⟨b, o + 2, none⟩ = some (.int .i64 2) := by simpa using hcs 2 _ rfl
 have c3 : w5.cell? ⟨b, o + 3, none⟩ = some (.int .i64 2) := by simpa using hcs 3 _ rfl
 have c4 : w5.cell? ⟨b, o + 4, none⟩ = some (.int .i64 5) := by simpa using hcs 4 _ rfl
 have HB5 := jh (HB4.out.tr hb5)
 clear ho hrep hcs hb5
 go_wp2_with fail
 go_ret
 exact ⟨ret_bool rfl, HB5.out⟩
end Go.Proofs.YtcmjgghkmdbphaaGreatDoor
namespace Go.Proofs.YtcmjgghkmdbphaaGreatDoor
open Go.RowKit
theorem round_any (n m : Int) (w : World) (hn : 0 ≤ n ∧ n ≤ 1000000) (hm : 1 ≤ m ∧ m ≤ 1000000) : Calls Tryz.prog 136 #[.int .i64 n, .int .i64 m] w fun e w' => e = .returned (.int .i64 (n % m)) ∧ w = w' := by
 obtain ⟨hn0, hn1⟩ := hn
 obtain ⟨hm0, hm1⟩ := hm
 have h0 : 0 ≤ n % m := Int.emod_nonneg _ (by omega)
 have h0' : decide (n % m < 0) = false := jd (by omega)
 go_enter Tryz.func136, Tryz.ntmps136
 go_wp2
 go_ret
 exact ⟨rfl, rfl⟩
def alikeN (k : Int) : Str := ((⟨#[115]⟩ : ByteArray) ++ strOfNums [97 + k % 26, 97 + k / 26]) ++ ⟨#[120]⟩
theorem alikeN_size (k : Int) : (alikeN k).size = 4 := by
 unfold alikeN
 simp only [ByteArray.size_append, strOfNums_size, List.length_cons, List.length_nil]
 decide
theorem stream_any (k : Int) (w : World) (hk : 0 ≤ k ∧ k < 676) : Calls Tryz.prog 81 #[.int .i64 k] w fun e w' => e = .returned (.string (alikeN k)) ∧ Below w.heap.size w w' := by
 have C := round_any k 676 w (by omega) (by omega)
 obtain ⟨hk0, hk1⟩ := hk
 have he : k % 676 = k := Int.emod_eq_of_lt hk0 hk1
 rw [he] at C
 have hd0 : 0 ≤ k / 26 := by omega
 have hd1 : k / 26 ≤ 26 := by omega
 have hm0 : 0 ≤ k % 26 := by omega
 have hm1 : k % 26 ≤ 25 := by omega
 clear he
 go_enter Tryz.func81, Tryz.ntmps81
 go_wp2_with fail
 refine C.mono ?_
 clear C
 rintro e w1 ⟨rfl, rfl⟩
 have hcv := run_convert_bytes_arg (P := Tryz.prog) (w.alloc (.cells #[.int .u8 (97 + k % 26), .int .u8 (97 + k / 26)] 5)) 215 5 Tryz.underlying215 Tryz.underlying5 w.heap.size 0 2 2 [97 + k % 26, 97 + k / 26] rfl (fun i hi => by
  have B := (Blk.new w 5 [.int .u8 (97 + k % 26), .int .u8 (97 + k / 26)]).cell
  rcases i with _ | _ | i
  ·exact B 0
  ·exact B 1
  ·omega) 9 Tryz.underlying9
 have HN := jh (show alikeN k = ((⟨#[115]⟩ : ByteArray) ++ strOfNums [97 + k % 26, 97 + k / 26]) ++ ⟨#[120]⟩ from rfl)
 have hsz := strOfNums_size [97 + k % 26, 97 + k / 26]
 generalize strOfNums [97 + k % 26, 97 + k / 26] = q at *
 go_wp2_with fail
 go_ret
 exact ⟨by rw [HN.out]; rfl, by repeat (with_reducible first | assumption | exact jb _ _ | refine Below.al ?_ _ | refine Below.drew ?_ | apply Below.st1)⟩
end Go.Proofs.YtcmjgghkmdbphaaGreatDoor
namespace Go.Proofs.YtcmjgghkmdbphaaGreatDoor
open Go.RowKit
def evK (n : Str) (i : Nat) : Event := ⟨n, (i : Int) + 1, ⟨#[120]⟩, ⟨(i : Int) + 1, 0, 1⟩, 0⟩
def evsK (n : Str) (k : Nat) : List Event := (List.range k).map (evK n)
def tabK (n : Str) (k : Nat) : Tab := if k = 0 then [] else [(n, ⟨evsK n k, []⟩)]
def strK (n : Str) (k : Nat) : List Stream := if k = 0 then [] else [⟨n, evsK n k, []⟩]
structure LowN (n : Str) : Prop where
 name : nameB n = true
 low : 0 ≤ hashS n ∧ hashS n ≤ 2147483647
theorem evsK_len (n : Str) (k : Nat) : (evsK n k).length = k := by simp [evsK]
theorem evsK_succ (n : Str) (k : Nat) : evsK n (k + 1) = evsK n k ++ [evK n k] := by simp [evsK, List.range_succ]
theorem x_valid : validB ⟨#[120]⟩ = true := by decide +kernel
theorem evK_ok {n : Str} (h : nameB n = true) {i : Nat} (hi : i ≤ 100) : eventB (evK n i) = true := by
 have hs : soundB ⟨(i : Int) + 1, 0, 1⟩ = true := by simp only [soundB, withinB, Bool.and_eq_true, decide_eq_true_eq]; omega
 have hd : decide ((⟨#[120]⟩ : Str).size ≤ 1000) = true := by decide
 unfold eventB evK
 rw [h, hs, x_valid, hd]
 simp only [Bool.true_and, Bool.and_eq_true, decide_eq_true_eq]
 omega
theorem evsK_mem {n : Str} {k : Nat} {e : Event} (h : e ∈ evsK n k) : ∃ i, i < k ∧ e = evK n i := by
 simp only [evsK, List.mem_map, List.mem_range] at h
 obtain ⟨i, hi, rfl⟩ := h
 exact ⟨i, hi, rfl⟩
theorem strK_ok {n : Str} (h : nameB n = true) {k : Nat} (hk : k ≤ 100) : (evsK n k).all (okE n) = true := by
 rw [List.all_eq_true]
 intro e he
 obtain ⟨i, hi, rfl⟩ := evsK_mem he
 unfold okE
 rw [evK_ok h (by omega)]
 simp [evK]
theorem goesK (n : Str) (k : Nat) : goesB (evsK n k) 0 = true := by
 rw [goes_iff]
 intro j e hj
 have hjk : j < k := by have := (List.getElem?_eq_some_iff.1 hj).1; rw [evsK_len] at this; exact this
 have he : e = evK n j := by
  have h2 : (evsK n k)[j]? = some (evK n j) := by simp [evsK, hjk]
  rw [hj] at h2; exact Option.some.inj h2
 subst he; simp [evK]; omega
theorem wholeK {n : Str} (h : nameB n = true) {k : Nat} (hk : k ≤ 100) (h0 : k ≠ 0) : wholeB ⟨n, evsK n k, []⟩ = true := by
 unfold wholeB streamB
 rw [h, strK_ok h hk, goesK]
 have : evsK n k ≠ [] := fun e => h0 (by have := evsK_len n k; rw [e] at this; exact this.symm)
 simp [this, keysB]
theorem sortS_one (n : Str) : sortS [n] = [n] := by simp [sortS]
theorem someK (n : Str) (k : Nat) {r : Range} (hr : inR r n = true) : someT (tabK n k) r = if k = 0 then [] else [n] := by
 unfold someT tabK
 by_cases h : k = 0
 ·simp [h, sortS]
 ·simp only [h, if_false, List.map_cons, List.map_nil]
  rw [sortS_one]; simp [hr]
theorem takeK (n : Str) (k : Nat) {r : Range} (hr : inR r n = true) : takeT (tabK n k) r = strK n k := by
 unfold takeT
 rw [someK n k hr]
 unfold strK tabK
 by_cases h : k = 0
 ·simp [h]
 ·simp [h, getA, streamOf, sortS]
theorem okPutK {n : Str} (h : nameB n = true) {k : Nat} (hk : k ≤ 100) : okPut [] (strK n k) = true := by
 unfold strK
 by_cases h0 : k = 0
 ·simp [h0, okPut]
 ·simp [h0, okPut, metS, wholeK h hk h0]
theorem putK {n : Str} (h : nameB n = true) {k : Nat} (hk : k ≤ 100) : putT (strK n k) [] = (tabK n k, 0) := by
 unfold putT
 rw [okPutK h hk]
 unfold strK tabK
 by_cases h0 : k = 0
 ·simp [h0, putAll]
 ·simp [h0, putAll, keysOf, putA]
theorem freshK {n : Str} (h : nameB n = true) {k : Nat} (hk : k ≤ 100) : freshT (tabK n k) = tabK n k := by
 unfold freshT
 rw [takeK n k (inR_all n), putK h hk]
theorem fresh_nil : freshT [] = [] := by kernel_rfl
theorem dropK {n : Str} {k : Nat} {r : Range} (hr : inR r n = true) : dropT (tabK n k) r = [] := by
 unfold dropT
 rw [someK n k hr]
 unfold tabK
 by_cases h0 : k = 0
 ·simp [h0]
 ·simp [h0, delA]
theorem drop_nil (r : Range) : dropT [] r = [] := by simp [dropT, someT, sortS]
def rgK (o e : Int) : List Range := [⟨0, 2147483647, o, e⟩, ⟨2147483648, 4294967295, 2, 1⟩]
def hbS (self o e : Int) (T : Tab) (F : List Rec) (L : List Event) : St := ⟨self, 2, 0, 0, rgK o e, T, [], [], [], F, L⟩
def cmR (n : Str) (i : Nat) : Rec := ⟨3, 0, 0, false, ⟨(i : Int) + 1, 0, 1⟩, ⟨0, 0, 0⟩, [], ⟨⟨#[]⟩, [⟨n, i, [⟨#[120]⟩]⟩]⟩, zeroRange, []⟩
theorem cm_check {n : Str} (h : nameB n = true) {i : Nat} (hi : i ≤ 100) : checkR (cmR n i) = 0 := by
 have hs : soundB ⟨(i : Int) + 1, 0, 1⟩ = true := by simp only [soundB, withinB, Bool.and_eq_true, decide_eq_true_eq]; omega
 have hb : checkB (cmR n i).batch = 0 := by
  have hm : mayB (cmR n i).batch = true := by
   have hp : putB [] ⟨n, i, [⟨#[120]⟩]⟩ = true := by
    rw [putB_iff]
    refine ⟨h, rfl, ?_, ?_, by simp, ?_⟩
    ·show (-1 : Int) ≤ (i : Int); omega
    ·show (i : Int) ≤ 1099511627776; omega
    ·simp [x_valid]
   unfold mayB cmR
   have hk : keyB ⟨#[]⟩ = true := by decide +kernel
   simp [putsB, hp, hk]
  unfold checkB
  rw [if_pos hm]
  have : putsBig (cmR n i).batch.puts (decide ((8 : Int) < (cmR n i).batch.puts.length)) 30000 = false := by
   show putsBig [⟨n, i, [⟨#[120]⟩]⟩] (decide ((8 : Int) < ((1 : Nat) : Int))) 30000 = false
   have h8 : decide ((8 : Int) < ((1 : Nat) : Int)) = false := by decide
   rw [h8]
   show (dataB [⟨#[120]⟩] 0 false 30000).1 = false
   decide +kernel
  rw [this]; rfl
 rw [checkR_iff]
 refine ⟨rfl, by simp [cmR, spareB, fieldsF, zeroRange], ?_, by simp [cmR, listsBad, fieldsF]⟩
 have hf : fieldsF (cmR n i).kind = { fBatch := true, fStamp := true } := by simp [cmR, fieldsF]
 rw [hf]
 unfold headBad
 rw [hb]
 have : soundB (cmR n i).stamp = true := hs
 rw [this]; rfl
theorem low_of (n : Str) (h : LowN n) (o e : Int) : ofR (rgK o e) n = (⟨0, 2147483647, o, e⟩, true) ∨ soundR (rgK o e) = false := by
 by_cases hs : soundR (rgK o e) = true
 ·refine .inl ?_
  unfold ofR findR atR
  rw [if_pos hs]
  have h0 : idxI (fun r : Range => r.has (hashS n)) (rgK o e) = 0 := by
   have : (Range.mk 0 2147483647 o e).has (hashS n) = true := by simp [Range.has]; exact h.low
   unfold rgK idxI
   rw [List.findIdx?_cons, this]; rfl
  rw [h0]; rfl
 ·exact .inr (by simpa using hs)
theorem rg_sound {o e : Int} (ho : 1 ≤ o ∧ o ≤ 2) (he : 1 ≤ e ∧ e ≤ 100) : soundR (rgK o e) = true := by
 have h1 : ownedB ⟨0, 2147483647, o, e⟩ = true := by simp [ownedB]; omega
 have h2 : ownedB ⟨2147483648, 4294967295, 2, 1⟩ = true := by decide
 simp [soundR, rgK, soundFrom, h1, h2]
theorem low_has {n : Str} (h : LowN n) (o e : Int) : inR ⟨0, 2147483647, o, e⟩ n = true := by
 unfold inR Range.has
 simp; exact h.low
theorem verK (n : Str) (i : Nat) : versionT (tabK n i) n = i := by
 unfold versionT tabK
 by_cases h0 : i = 0
 ·simp [h0, getA]
 ·simp [h0, getA, evsK_len]
theorem commitK {n : Str} (h : LowN n) {i : Nat} (hi : i ≤ 100) (L : List Event) : applyS (hbS 1 1 1 (tabK n i) [] L) (cmR n i) = (hbS 1 1 1 (tabK n (i + 1)) [] (L ++ [evK n i]), 0) := by
 have hc := cm_check h.name hi
 have hm : mayS (hbS 1 1 1 (tabK n i) [] L) (cmR n i).batch = ([(i : Int) + 1], zeroKnown, 0) := by
  have hcb := (checkR_batch hc (.inl rfl)).1
  have hof := (low_of n h 1 1).resolve_right (by rw [rg_sound (by decide) (by decide)]; decide)
  have hp : mayP (hbS 1 1 1 (tabK n i) [] L) (cmR n i).batch.puts = 0 := by
   have hs : servesS (hbS 1 1 1 (tabK n i) [] L) n = true := by
    unfold servesS
    rw [show (hbS 1 1 1 (tabK n i) [] L).ring = rgK 1 1 from rfl, hof]; rfl
   have hb : busyS (hbS 1 1 1 (tabK n i) [] L) n = false := by simp [busyS, hbS]
   show mayP (hbS 1 1 1 (tabK n i) [] L) [⟨n, i, [⟨#[120]⟩]⟩] = 0
   simp only [mayP, hs, hb]; rfl
  unfold mayS
  rw [hcb, hp]
  simp only [ne_eq, not_true_eq_false, if_false]
  have hk : knownS (hbS 1 1 1 (tabK n i) [] L) (cmR n i).batch = ([], zeroKnown, 0) := by
   unfold knownS
   rw [if_pos (by show (⟨#[]⟩ : Str).toList = []; rw [ByteArray.toList_eq])]
  rw [hk]
  show mayV (tabK n i) [⟨n, i, [⟨#[120]⟩]⟩] [] = _
  simp [mayV, verK]
 have ha : appendT ⟨#[]⟩ [evK n i] (tabK n i) = (tabK n (i + 1), 0) := by
  have h1 : alikeB [evK n i] = true := by simp [alikeB, evK_ok h.name hi]
  have h2 : keyB ⟨#[]⟩ = true := by decide +kernel
  have h3 : goesB [evK n i] (versionT (tabK n i) (evK n i).stream) = true := by
   rw [show (evK n i).stream = n from rfl, verK]; simp [goesB, goesFrom, evK]
  unfold appendT
  simp only [h1, h2, h3]
  simp only [Bool.true_eq_false, or_self, if_false]
  have hk : (⟨#[]⟩ : Str).toList = [] := by rw [ByteArray.toList_eq]
  unfold addKey
  rw [if_neg (fun h => h.2 hk), show (evK n i).stream = n from rfl]
  unfold tabK
  by_cases h0 : i = 0
  ·subst h0; simp [getA, putA, evsK]
  ·simp [h0, getA, putA, evsK_succ]
 have hmk : makeB (cmR n i).batch [(i : Int) + 1] (cmR n i).stamp 0 = [evK n i] := by
  simp [cmR, makeB, makeF, makeP, evK]
 unfold applyS
 rw [if_neg (by rw [hc]; decide)]
 show commitS _ _ = _
 unfold commitS
 rw [hm]
 simp only [if_true]
 unfold putS
 rw [hmk]
 rw [show (hbS 1 1 1 (tabK n i) [] L).table = tabK n i from rfl, freshK h.name hi]
 have hpp : putP (cmR n i).batch.key (cmR n i).batch.puts [evK n i] (tabK n i) = tabK n (i + 1) := by
  simp [cmR, putP, ha]
 rw [hpp]; rfl
end Go.Proofs.YtcmjgghkmdbphaaGreatDoor
namespace Go.Proofs.YtcmjgghkmdbphaaGreatDoor
open Go.RowKit
def relR (m : Range) : Rec := ⟨11, 0, 0, false, zeroStamp, ⟨0, 0, 0⟩, [], ⟨⟨#[]⟩, []⟩, m, []⟩
def relHit (m : Range) (f : Rec) : Bool := decide (f.range.first = m.first) && decide (f.range.last = m.last) && decide (f.to = m.owner) && decide (f.range.epoch = m.epoch - 1)
def relP (s : St) (m : Range) : List Rec := if s.frozen.any (relHit m) then [relR m] else []
def relV (m : Range) : List Value := [.int .i64 11, .int .i64 0, .int .i64 0, .bool false, .int .i64 0, .int .i64 0, .int .i64 0, .int .i64 0, .int .i64 0, .int .i64 0, .slice none 0 0, .string ⟨#[]⟩, .slice none 0 0, .int .i64 m.first, .int .i64 m.last, .int .i64 m.owner, .int .i64 m.epoch, .slice none 0 0]
theorem rel_cells (m : Range) : (relR m).cells none 0 none 0 none 0 = relV m := rfl
theorem rel_at {w : World} {P : Nat → Prop} {m : Range} (hm : m.fit) : RecAt w P (relR m) none 0 none 0 none 0 :=
 ⟨i64_small 11 (by omega), i64_small 0 (by omega), i64_small 0 (by omega), ⟨i64_small 0 (by omega), i64_small 0 (by omega), i64_small 0 (by omega)⟩, ⟨i64_small 0 (by omega), i64_small 0 (by omega), i64_small 0 (by omega)⟩, ⟨Nat.le_refl _, by decide, Rep.Row.nil_⟩, (by show (0 : Nat) ≤ _; omega), ⟨Nat.le_refl _, by decide, Rep.Row.nil_⟩, hm, ⟨Nat.le_refl _, by decide, Rep.Row.nil_⟩⟩
def GotRecs (B : Nat) (l : List Rec) (e : Ending) (w' : World) : Prop := ∃ A c, e = .returned (.slice A l.length c) ∧ RecR.Row w' (fun k => B ≤ k) A l
theorem releaseH_any (g : Nat) (s : St) (m : Range) (P : Nat → Prop) (w : World) (h : StAt w P g s) (hS : Fit s) (hm : m.fit) (hme : 1 ≤ m.epoch) (hfl : s.frozen.length ≤ 1000) :
 Calls Tryz.prog 55 #[ptrV g, .agg #[.int .i64 m.first, .int .i64 m.last, .int .i64 m.owner, .int .i64 m.epoch]] w fun e w' => GotRecs w.heap.size (relP s m) e w' ∧ Below w.heap.size w w' := by
 have HST := jh (fun W (hW : Below w.heap.size w W) => (show StAt W (fun k => P k ∧ k < w.heap.size) g s from by obtain ⟨v, a, b⟩ := h; exact ⟨v, a.ext hW, b.low.same (js hW)⟩))
 have hb0 := (jb w.heap.size w).al (.cells #[.int .i64 m.first, .int .i64 m.last, .int .i64 m.owner, .int .i64 m.epoch] 103)
 have B0 := Blk.new w 103 [.int .i64 m.first, .int .i64 m.last, .int .i64 m.owner, .int .i64 m.epoch]
 have C1 := sfrozen_any g s _ _ (HST.out _ hb0) hS.self (by omega)
 have HF := jh (ja hm hfl)
 have hm2 : m.epoch ≤ 9223372036854775807 := hm.2.2.2.2
 have HB := jh (ja hb0 B0)
 clear h hS hm hfl hb0 B0
 unfold GotOwn ptrV at C1
 unfold ptrV
 go_enter Tryz.func55, Tryz.ntmps55
 go_wp2_with fail
 refine C1.mono ?_
 clear C1
 rintro e w1 ⟨⟨v, rfl, ho⟩, hb1⟩
 obtain ⟨A, c, rfl, _⟩ := ho.form
 have HW := jh (ja (HB.out.1.tr hb1) (ja (HB.out.2.ext hb1) ((ho.row (fun _ hk => .inl hk)).mono (Q := fun k => w.heap.size ≤ k ∨ (P k ∧ k < w.heap.size)) (fun k hk _ => hk.elim (fun q => .inl (Nat.le_trans HB.out.1.size q)) .inr))))
 clear ho hb1 HB
 go_wp2_with fail
 go_loopw [10] (fun iv wr => ∃ k : Nat, k ≤ s.frozen.length ∧ iv = .int .i64 k ∧ (s.frozen.take k).any (relHit m) = false ∧ Below w1.heap.size w1 wr) (fun iv _ => s.frozen.length - (intOf iv).toNat)
 case atStart => exact ⟨0, Nat.zero_le _, rfl, by simp, jb _ _⟩
 case round =>
  obtain ⟨k, hk, rfl, hany, hbl⟩ := hrel
  have hzr := hbl.size
  have hl1000 := HF.out.2
  by_cases hlt : k < s.frozen.length
  ·have hlt' : (k : Int) < s.frozen.length := by omega
   have hlk := jg hlt
   have hts := take_snoc s.frozen k hlt
   have hmem := List.getElem_mem hlt
   obtain ⟨b, o, nA, nc, pA, pc, sA, sc, rfl, hbw, hrec, hcs⟩ := recs_at (HW.out.2.2.ext hbl) hlk
   generalize s.frozen[k] = f at *
   have HX := jh (ja hts (ja hany (ja hbl hmem)))
   unfold Rec.cells at hcs
   have HCS := jh hcs
   clear hany hbl hts hlk hrec hcs hmem
   have hbx := (jb wr.heap.size wr).al (.cells #[.int .i64 f.kind, .int .i64 f.n, .int .i64 f.to, .bool f.yes, .int .i64 f.stamp.wall, .int .i64 f.stamp.logic, .int .i64 f.stamp.node, .int .i64 f.tx.node, .int .i64 f.tx.life, .int .i64 f.tx.num, .slice nA f.nodes.length nc, .string f.batch.key, .slice pA f.batch.puts.length pc, .int .i64 f.range.first, .int .i64 f.range.last, .int .i64 f.range.owner, .int .i64 f.range.epoch, .slice sA f.streams.length sc] 46)
   have BX := Blk.new wr 46 [.int .i64 f.kind, .int .i64 f.n, .int .i64 f.to, .bool f.yes, .int .i64 f.stamp.wall, .int .i64 f.stamp.logic, .int .i64 f.stamp.node, .int .i64 f.tx.node, .int .i64 f.tx.life, .int .i64 f.tx.num, .slice nA f.nodes.length nc, .string f.batch.key, .slice pA f.batch.puts.length pc, .int .i64 f.range.first, .int .i64 f.range.last, .int .i64 f.range.owner, .int .i64 f.range.epoch, .slice sA f.streams.length sc]
   go_upto_region 4 with (first
    | ((with_reducible refine wpList_load_at rfl rfl ?_ HCS.out Tryz.underlying46 rfl (by kernel_rfl) ?_); · rfl)
    | (refine wpList_store_new (cs := #[.int .i64 f.kind, .int .i64 f.n, .int .i64 f.to, .bool f.yes, .int .i64 f.stamp.wall, .int .i64 f.stamp.logic, .int .i64 f.stamp.node, .int .i64 f.tx.node, .int .i64 f.tx.life, .int .i64 f.tx.num, .slice nA f.nodes.length nc, .string f.batch.key, .slice pA f.batch.puts.length pc, .int .i64 f.range.first, .int .i64 f.range.last, .int .i64 f.range.owner, .int .i64 f.range.epoch, .slice sA f.streams.length sc]) rfl rfl rfl rfl rfl (by kernel_rfl) rfl (by simp [Value.oneCell']) ?_)
    | fail)
   have hwx0 := HX.out.2.2.1.tr hbx
   have HN := jh (HW.out.2.1.ext hwx0)
   have HBX := jh (ja BX hwx0)
   clear BX hbx hwx0
   generalize wr.alloc (.cells #[.int .i64 f.kind, .int .i64 f.n, .int .i64 f.to, .bool f.yes, .int .i64 f.stamp.wall, .int .i64 f.stamp.logic, .int .i64 f.stamp.node, .int .i64 f.tx.node, .int .i64 f.tx.life, .int .i64 f.tx.num, .slice nA f.nodes.length nc, .string f.batch.key, .slice pA f.batch.puts.length pc, .int .i64 f.range.first, .int .i64 f.range.last, .int .i64 f.range.owner, .int .i64 f.range.epoch, .slice sA f.streams.length sc] 46) = wx at *
   have x0 := HBX.out.1.cell
   have hxl := HBX.out.1.lt
   have m0 := HN.out.cell
   have hml := HN.out.lt
   by_cases h1 : f.range.first = m.first
   ·by_cases h2 : f.range.last = m.last
    ·by_cases h3 : f.to = m.owner
     ·by_cases h4 : f.range.epoch = m.epoch - 1
      ·have HH := jh (show relHit m f = true from by unfold relHit; simp [h1, h2, h3, h4])
       go_wp2_with fail
       have HRE := jh (show relP s m = [relR m] from by unfold relP; rw [if_pos (List.any_eq_true.2 ⟨f, HX.out.2.2.2, HH.out⟩)])
       have hrow := Rep.Row.new1 (R := RecR) (w := wx) (t := 46) (a := relR m) (P := fun _ => False) (cs := relV m) (rec_rep.2 ⟨none, 0, none, 0, none, 0, (rel_cells m).symm, rel_at HF.out.1⟩)
       have hzx := HBX.out.2.size
       have hzw := HW.out.1.size
       go_ret
       exact ⟨⟨some ⟨wx.heap.size, 0, none⟩, 1, by rw [HRE.out]; rfl, by rw [HRE.out]; exact hrow.mono (fun q hq _ => by rcases hq with hq | hq; exact hq.elim; show w.heap.size ≤ q; omega)⟩, HW.out.1.tr (HBX.out.2.al _)⟩
      ·have h4' : decide (f.range.epoch = m.epoch - 1) = false := jd h4
       have HH := jh (show relHit m f = false from by unfold relHit; rw [h4']; simp)
       go_wp2_with fail
       go_round
       case rel => exact ⟨k + 1, by omega, by go_num, by rw [HX.out.1, List.any_append, HX.out.2.1]; simp [HH.out], HBX.out.2⟩
       case measure => simp [intOf]; omega
     ·have h3' : decide (f.to = m.owner) = false := jd h3
      have HH := jh (show relHit m f = false from by unfold relHit; rw [h3']; simp)
      go_wp2_with fail
      go_round
      case rel => exact ⟨k + 1, by omega, by go_num, by rw [HX.out.1, List.any_append, HX.out.2.1]; simp [HH.out], HBX.out.2⟩
      case measure => simp [intOf]; omega
    ·have h2' : decide (f.range.last = m.last) = false := jd h2
     have HH := jh (show relHit m f = false from by unfold relHit; rw [h2']; simp)
     go_wp2_with fail
     go_round
     case rel => exact ⟨k + 1, by omega, by go_num, by rw [HX.out.1, List.any_append, HX.out.2.1]; simp [HH.out], HBX.out.2⟩
     case measure => simp [intOf]; omega
   ·have h1' : decide (f.range.first = m.first) = false := jd h1
    have HH := jh (show relHit m f = false from by unfold relHit; rw [h1']; simp)
    go_wp2_with fail
    go_round
    case rel => exact ⟨k + 1, by omega, by go_num, by rw [HX.out.1, List.any_append, HX.out.2.1]; simp [HH.out], HBX.out.2⟩
    case measure => simp [intOf]; omega
  ·have hkn : k = s.frozen.length := by omega
   subst hkn
   rw [List.take_length] at hany
   have HO := jh (ja hany hbl)
   clear hany hbl
   go_wp2_with fail
   go_ret
   have hre : relP s m = [] := by unfold relP; rw [HO.out.1]; rfl
   exact ⟨⟨none, 0, by rw [hre]; rfl, by rw [hre]; exact Rep.Row.nil_⟩, HW.out.1.tr HO.out.2⟩
end Go.Proofs.YtcmjgghkmdbphaaGreatDoor
namespace Go.Proofs.YtcmjgghkmdbphaaGreatDoor
open Go.RowKit
def mayI (r : Range) : Bool := decide (0 ≤ r.first) && decide (r.first ≤ r.last) && decide (r.last ≤ 4294967295) && decide (1 ≤ r.owner) && decide (r.owner ≤ 5) && decide (1 ≤ r.epoch) && decide (r.epoch ≤ 1099511627776)
theorem mayI_any (r : Range) (w : World) : Calls Tryz.prog 166 #[.agg #[.int .i64 r.first, .int .i64 r.last, .int .i64 r.owner, .int .i64 r.epoch]] w fun e w' => e = .returned (.bool (mayI r)) ∧ Below w.heap.size w w' := by
 go_enter Tryz.func166, Tryz.ntmps166
 go_wp2
 all_goals
  go_ret
  refine ⟨ret_bool ?_, by repeat (with_reducible first | assumption | exact jb _ _ | refine Below.al ?_ _ | refine Below.drew ?_ | apply Below.st1)⟩
  go_light
  unfold mayI
  rw [Bool.eq_iff_iff]
  simp at *
  omega
def hasHit (r x : Range) : Bool := decide (x.first ≤ r.last) && decide (r.first ≤ x.last) && decide (x.epoch < r.epoch)
theorem hasHit_any (r : Range) (b : Nat) (x : Range) (w : World) (hb : Blk w b 27 [.int .i64 r.first, .int .i64 r.last, .int .i64 r.owner, .int .i64 r.epoch]) : Calls Tryz.prog 249 #[.agg #[.int .i64 x.first, .int .i64 x.last, .int .i64 x.owner, .int .i64 x.epoch], .pointer (some ⟨b, 0, none⟩)] w fun e w' => e = .returned (.bool (hasHit r x)) ∧ Below w.heap.size w w' := by
 have hlt := hb.lt
 have hb' := hb.alloc (.cells #[.int .i64 x.first, .int .i64 x.last, .int .i64 x.owner, .int .i64 x.epoch] 27)
 have b0 := hb'.cell
 clear hb hb'
 go_enter Tryz.func249, Tryz.ntmps249
 go_wp2
 all_goals
  go_ret
  refine ⟨ret_bool ?_, by repeat (with_reducible first | assumption | exact jb _ _ | refine Below.al ?_ _ | refine Below.drew ?_ | apply Below.st1)⟩
  go_light
  unfold hasHit
  rw [Bool.eq_iff_iff]
  simp at *
  omega
theorem enters_hasI : ∀ args w, (callFunc 249 args).run Tryz.prog w = .ok (.enter 249 args) w := enters_of Tryz.func249 (by kernel_rfl) rfl
def hasI (l : List Range) (r : Range) : Bool := !(l.any (hasHit r))
theorem hasF_Range (F : FuncId) (caps : List Value) (p : Range → Bool) (hent : ∀ args w, (callFunc F args).run Tryz.prog w = .ok (.enter F args) w) (A : Option Addr) (c : Nat) (l : List Range) (P : Nat → Prop) (w : World) (hr : RangeR.Row w P A l) (hl : l.length ≤ 9223372036854775807) (hF : Tells RangeR aggV F caps P p l w) :
 Calls Tryz.prog 248 #[.slice A l.length c, .func (.func F) #[] caps.toArray] w fun e w' => e = .returned (.bool (l.any p)) ∧ Below w.heap.size w w' := by
 have C := idxF_Range F caps p hent A c l P w hr hl hF
 clear hF hr
 go_enter Tryz.func248, Tryz.ntmps248
 go_wp2_with fail
 refine C.mono ?_
 clear C
 rintro e w1 ⟨rfl, hb1⟩
 have hd := jh (idxI_any p l)
 go_wp2
 go_ret
 exact ⟨ret_bool hd.out, hb1⟩
theorem hasI_any (A : Option Addr) (c : Nat) (l : List Range) (r : Range) (P : Nat → Prop) (w : World) (hr : RangeR.Row w P A l) (hl : l.length ≤ 300) :
 Calls Tryz.prog 167 #[.slice A l.length c, .agg #[.int .i64 r.first, .int .i64 r.last, .int .i64 r.owner, .int .i64 r.epoch]] w fun e w' => e = .returned (.bool (hasI l r)) ∧ Below w.heap.size w w' := by
 have hb0 := (jb w.heap.size w).al (.cells #[.int .i64 r.first, .int .i64 r.last, .int .i64 r.owner, .int .i64 r.epoch] 27)
 have B0 := Blk.new w 27 [.int .i64 r.first, .int .i64 r.last, .int .i64 r.owner, .int .i64 r.epoch]
 have C := hasF_Range 249 [.pointer (some ⟨w.heap.size, 0, none⟩)] (hasHit r) enters_hasI A c l P _ (hr.ext hb0) (by omega) (fun a cs W' _ ha hb' => by
  obtain ⟨rfl, _⟩ := range_rep.1 ha
  exact hasHit_any r w.heap.size a W' (B0.ext hb'))
 have HB := jh hb0
 clear hr hl hb0 B0
 go_enter Tryz.func167, Tryz.ntmps167
 go_wp2_with fail
 refine C.mono ?_
 clear C
 rintro e w1 ⟨rfl, hb1⟩
 have HD := jh (show (!(l.any (hasHit r))) = hasI l r from rfl)
 go_wp2_with fail
 go_ret
 exact ⟨ret_bool HD.out, HB.out.tr hb1⟩
end Go.Proofs.YtcmjgghkmdbphaaGreatDoor
