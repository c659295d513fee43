/- state.State.Learn. state.State.Take: the row lies in new memory. The reference's ring: SoundRing and Find of a sound ring. Plain laws of a state that records made: whose it is stays; frozen ranges are found. The reference's SameEvents, SameRanges, SameStreams of equal lists. StateLearns: the law's walk. Arguments opened: what is read as a datum is one of ours. -/
import Derived.Test.YtpgocpodhamibaaGreatDoorN07
import Derived.Test.YtpgocpodhamibaaGreatDoorNL02
import Derived.Test.YtpgocpodhamibaaGreatDoorN03
import Derived.Test.YtpgocpodhamibaaGreatDoorNK05
import Derived.Test.YtpgocpodhamibaaGreatDoorNL01
import Derived.Test.YtpgocpodhamibaaGreatDoorNK07
import Derived.Laws.StructEq
import Derived.Test.YtpgocpodhamibaaGreatDoorN06
import Derived.Test.YtpgocpodhamibaaGreatDoorNK01
import Derived.Test.YtpgocpodhamibaaGreatDoorProg
import Derived.Deep.Slices
import Derived.ChangeSame
import Derived.ChangeArms
namespace Go.Proofs.YtpgocpodhamibaaGreatDoor
open Go.RowKit
def LrD (g : Nat) (n : Int) (W : World) : Prop := W.cell? ⟨g, 0, none⟩ = some (.int .i64 n)
theorem LrD.c0 {g : Nat} {n : Int} (d : Wd (LrD g n)) : d.w.cell? ⟨g, 0, none⟩ = some (.int .i64 n) := d.ok
set_option maxRecDepth 20000 in
set_option maxHeartbeats 1600000 in
theorem learn_any (g : Nat) (s : St) (P Q : Nat → Prop) (w : World) (h : StAt w P g s) (hg : ¬ P g) (hs : s.self ≠ 0) (A : Option Addr) (c : Nat) (l : List Range) (hr : RangeR.Row w Q A l) (hl : l.length ≤ 1000000) (hl2 : s.ring.length ≤ 1000000) :
 Calls Tryz.prog 43 #[ptrV g, .slice A l.length c] w fun e w' => e = .returned (.tuple #[]) ∧ StAt w' (fun k => P k ∨ w.heap.size ≤ k) g { s with ring := mergeR s.self s.ring l } ∧ Only (· = g) w w' := by
 have hgl := h.lt
 obtain ⟨v, hB, hI⟩ := h
 have C1 := gone_any g s.self w (hB.cell 0) hs
 obtain ⟨Ar, cr, hv, hc1, hc2, hrow⟩ := hI.ring
 have hvl : v.ring = .slice Ar s.ring.length cr := by injection hv
 have y4 : w.drew.cell? ⟨g, 4, none⟩ = some v.ring := hB.cell 4
 rw [hvl] at y4
 have hD : LrD g s.self w := hB.cell 0
 have CM := merge_any Ar cr s.ring A c l s.self P Q w.drew (hrow.ext (jb _ _).drew) (hr.ext (jb _ _).drew) hl2 hl
 unfold GotOwn at CM
 have HV := jh (ja hB (ja hI hg))
 clear hB hI hv hc1 hc2 hrow hr hg hvl
 unfold ptrV at C1 ⊢
 go_enter Tryz.func43, Tryz.ntmps43
 go_wp2_with fail
 refine C1.mono ?_
 clear C1
 rintro e w' ⟨rfl, rfl⟩
 go_upto_region 1 with fail
 haveI : Nonempty (Wd (LrD g s.self)) := ⟨⟨_, hD⟩⟩
 have y0 := LrD.c0 (g := g) (n := s.self)
 refine wp_region_mix (.seg [0, 1, 2, 3, 5, 6, 7, 8, 9] 4 (.seg [] 10 (.seg [11, 12] 13 (.leaf [])))) (fun w' => ∃ d : Wd (LrD g s.self), w' = d.w) (by kernel_rfl) (by kernel_rfl) (fun _ _ d _ _ h => by cases d <;> exact h) (ClsW.mk (D := LrD g s.self) hD) ?_
 unfold wpMix; simp only [pick, j1, j2, j3, j4]
 (repeat (show wpQuiet _ _ _ _ (_ :: _) _; go_big_quiet_step (fail))); refine qn ?_
 go_wp2_with fail
 (dsimp only [wpList, SegQ]; refine ⟨fun w' => ∃ d : Wd (LrD g s.self), w' = d.w, ClsW.mk (D := LrD g s.self) (hD), fun _ h => h, ?_⟩; unfold wpMix; simp only [pick, j1, j2, j3, j4]; (repeat (show wpQuiet _ _ _ _ (_ :: _) _; go_big_quiet_step (fail))); refine qn ?_)
 go_wp2_with fail
 refine CM.mono ?_
 clear CM y4
 rintro e w2 ⟨⟨v2, rfl, ho⟩, hb2'⟩
 have hb2 : Below w.heap.size w w2 := (jb _ w).drew.tr hb2'
 obtain ⟨A2, c2, rfl, hc1, hc2⟩ := ho.form
 have hz : w.drew.heap.size = w.heap.size := rfl
 have hB2 := HV.out.1.ext hb2
 have hD2 : LrD g s.self w2 := hB2.cell 0
 have HO := jh (ja ho (ja hc1 (ja hc2 hb2)))
 have y4 : w2.cell? ⟨g, 4, none⟩ = some v.ring := hB2.cell 4
 have f4 := hB2.frozen 4
 clear ho hb2 hb2' hc1 hc2
 go_wp2_with fail
 (dsimp only [wpList, SegQ]; refine ⟨fun w' => ∃ d : Wd (LrD g s.self), w' = d.w, ClsW.mk (D := LrD g s.self) (hD2), fun _ h => h, ?_⟩; unfold wpMix; simp only [pick, j1, j2, j3, j4]; (repeat (show wpQuiet _ _ _ _ (_ :: _) _; go_big_quiet_step (fail))); refine qn ?_)
 have hB3 := hB2.set_ 4 (.slice A2 (mergeR s.self s.ring l).length c2)
 have hO3 : Only (· = g) w2 (w2.setCell ⟨g, 4, none⟩ (.slice A2 (mergeR s.self s.ring l).length c2)) := Only.set_ (F := (· = g)) rfl _
 have hD3 : LrD g s.self (w2.setCell ⟨g, 4, none⟩ (.slice A2 (mergeR s.self s.ring l).length c2)) := hB3.cell 0
 have H3 := jh (ja hB3 hO3)
 clear hB2 hB3 hO3
 go_wp2_with fail
 (dsimp only [wpList, SegQ]; refine ⟨fun w' => ∃ d : Wd (LrD g s.self), w' = d.w, ClsW.mk (D := LrD g s.self) (hD3), fun _ h => h, ?_⟩; unfold wpMix; simp only [pick, j2]; (repeat (show wpQuiet _ _ _ _ (_ :: _) _; go_big_quiet_step (fail))); refine qn ?_)
 clear y0 y4 f4
 go_wp2_with fail
 refine bodyPost_end (results_none rfl _ _ _) rfl ?_
 refine ⟨rfl, ⟨{ v with ring := .slice A2 (mergeR s.self s.ring l).length c2 }, H3.out.1, ?_⟩, (Only.of_below HO.out.2.2.2).tr H3.out.2⟩
 have h1 := ((HV.out.2.1.same (Same.of_below HO.out.2.2.2)).same (Same.of_only H3.out.2 fun k hk e => HV.out.2.2 (e ▸ hk))).mono (Q := fun k => P k ∨ w.heap.size ≤ k) fun k hk => .inl hk
 refine { h1 with ring := ⟨A2, c2, rfl, HO.out.2.1, HO.out.2.2.1, ?_⟩ }
 have hrow2 : RangeR.Row w2 (fun q => w.heap.size ≤ q) A2 (mergeR s.self s.ring l) := HO.out.1.row' range_plain fun q hq => by have := (HO.out.1.lt q hq).1; omega
 exact (hrow2.same (Same.of_only H3.out.2 fun k hk e => by have e' : k = g := e; have hk' : w.heap.size ≤ k := hk; omega) H3.out.2.size).mono fun k hk _ => .inr hk
end Go.Proofs.YtpgocpodhamibaaGreatDoor
namespace Go.Proofs.YtpgocpodhamibaaGreatDoor
open Go.RowKit
def GotStN (B : Nat) (l : List Stream) (e : Ending) (w' : World) : Prop := ∃ A c, e = .returned (.slice A l.length c) ∧ StreamR.Row w' (fun k => B ≤ k) A l
set_option maxRecDepth 20000 in
set_option maxHeartbeats 1600000 in
theorem stakeN_any (g : Nat) (s : St) (r : Range) (P : Nat → Prop) (w : World) (h : StAt w P g s) (hS : Fit s) :
 Calls Tryz.prog 25 #[ptrV g, .agg #[.int .i64 r.first, .int .i64 r.last, .int .i64 r.owner, .int .i64 r.epoch]] w fun e w' => GotStN w.heap.size (takeT s.table r) e w' ∧ Below w.heap.size w w' := by
 obtain ⟨v, hB, hI⟩ := h
 have hb0 := (jb w.heap.size w).al (.cells #[.int .i64 r.first, .int .i64 r.last, .int .i64 r.owner, .int .i64 r.epoch] 40)
 have B0 := Blk.new w 40 [.int .i64 r.first, .int .i64 r.last, .int .i64 r.owner, .int .i64 r.epoch]
 unfold ptrV
 have HH := jh (ja hB hI.table)
 clear hB hI
 go_enter Tryz.func25, Tryz.ntmps25
 go_upto_region 1 with fail
 generalize hw1 : (w.alloc (.cells #[.int .i64 r.first, .int .i64 r.last, .int .i64 r.owner, .int .i64 r.epoch] 40)) = w1 at *
 clear hw1
 have C1 := gone_any g s.self w1 ((HH.out.1.ext hb0).cell 0) hS.self
 have C2 := take_any v.tb s.table r P w1.drew (HH.out.2.ext hb0.drew) hS.fair.len hS.fair.each
 unfold ptrV Range.val at C2
 unfold ptrV at C1
 have y5 := On.cell ((HH.out.1.ext hb0).cell 5 : w1.cell? ⟨g, 5, none⟩ = some (.pointer (some ⟨v.tb, 0, none⟩)))
 have z0 := On.cell (B0.cell 0 : w1.cell? ⟨w.heap.size, 0, none⟩ = some (.int .i64 r.first))
 have z1 := On.cell (B0.cell 1 : w1.cell? ⟨w.heap.size, 1, none⟩ = some (.int .i64 r.last))
 have z2 := On.cell (B0.cell 2 : w1.cell? ⟨w.heap.size, 2, none⟩ = some (.int .i64 r.owner))
 have z3 := On.cell (B0.cell 3 : w1.cell? ⟨w.heap.size, 3, none⟩ = some (.int .i64 r.epoch))
 have hlo := jb w1.heap.size w1
 have HB0 := jh hb0
 clear B0 hb0 hS
 go_wp2_with fail
 refine C1.mono ?_
 clear C1
 rintro e w' ⟨rfl, rfl⟩
 go_upto_region 3 with fail
 refine wp_region_mix (.seg [0, 1, 2, 3, 4] 5 (.leaf [6])) (fun w' => ∃ d : Wd (On w1), w' = d.w) (by kernel_rfl) (by kernel_rfl) (fun _ _ d _ _ h => by cases d <;> exact h) (ClsW.mk hlo.drew) ?_
 unfold wpMix; simp only [pick, j1, j2, j3, j4]
 (repeat (show wpQuiet _ _ _ _ (_ :: _) _; go_big_quiet_step (fail))); refine qn ?_
 go_wp2_with fail
 refine C2.mono ?_
 clear C2
 rintro e w3 ⟨⟨v3, rfl, ho⟩, hb3'⟩
 have hb3 : Below w1.heap.size w1 w3 := hlo.drew.tr hb3'
 obtain ⟨A3, c3, rfl, _⟩ := ho.form
 have HO := jh (ja ((ho.row (fun _ h => h)).mono (Q := fun k => w.heap.size ≤ k) fun k hk _ => by have h1 : w1.drew.heap.size = w1.heap.size := rfl; have := HB0.out.size; omega) (HB0.out.tr hb3))
 clear ho hb3'
 go_wp2_with fail
 (dsimp only [wpList, SegQ]; refine ⟨fun w' => ∃ d : Wd (On w1), w' = d.w, ClsW.mk (hb3), fun _ h => h, ?_⟩; unfold wpMix; simp only [pick, j1, j2, j3, j4]; (repeat (show wpQuiet _ _ _ _ (_ :: _) _; go_big_quiet_step (fail))); refine qn ?_)
 clear y5 z0 z1 z2 z3 hb3 hlo
 go_wp2_with fail
 go_ret
 exact ⟨⟨_, _, rfl, HO.out.1⟩, HO.out.2⟩
end Go.Proofs.YtpgocpodhamibaaGreatDoor
namespace Go.Proofs.YtpgocpodhamibaaGreatDoor
open Go.RowKit
set_option maxRecDepth 20000 in
set_option maxHeartbeats 1600000 in
theorem rsound_any (A : Option Addr) (c : Nat) (l : List Range) (P : Nat → Prop) (w : World) (hr : RangeR.Row w P A l) (hs : soundR l = true) :
 Calls Tryz.prog 21 #[.slice A l.length c] w fun e w' => e = .returned (.bool true) ∧ Below w.heap.size w w' := by
 have HR := jh hr; clear hr
 have HL := jh (sound_iff.1 hs); clear hs
 go_enter Tryz.func21, Tryz.ntmps21
 go_wp2_with fail
 go_loopw [3, 4] (fun nx i wr => ∃ (k : Nat) (n : Int), k ≤ l.length ∧ i = .int .i64 k ∧ nx = .int .i64 n ∧ 0 ≤ n ∧ soundFrom (l.drop k) n = some 4294967296 ∧ Below w.heap.size w wr) (fun _ i _ => l.length - (intOf i).toNat)
 case atStart => exact ⟨0, 0, Nat.zero_le _, rfl, rfl, by omega, HL.out.1, jb _ _⟩
 case round =>
  obtain ⟨k, n, hk, rfl, rfl, hn0, hs, hbl⟩ := hrel
  have HS := jh hs; clear hs
  by_cases hlt : k < l.length
  ·have hlk := List.getElem?_eq_getElem hlt
   have hd := soundFrom_drop l k n hlt
   generalize l[k] = x at hlk hd
   obtain ⟨b, o, cs, rfl, hP, hbw, hrep, hcs⟩ := (HR.out.ext hbl).at_ hlk
   obtain ⟨rfl, hf⟩ := range_rep.1 hrep
   have hok : (x.first = n ∧ n ≤ x.last ∧ x.last ≤ 4294967295 ∧ ownedB x = true) ∧ soundFrom (l.drop (k + 1)) (x.last + 1) = some 4294967296 := by
    have h1 := HS.out
    rw [hd] at h1
    split at h1
    ·rename_i h2; exact ⟨h2, h1⟩
    ·cases h1
   obtain ⟨⟨h1, h2, h3, h4⟩, h5⟩ := hok
   obtain ⟨h6, h7, h8, h9⟩ := ownedB_iff.1 h4
   subst h1
   have HD := jh (ja (show 0 ≤ x.last + 1 by omega) (ja h3 h5))
   have c0 := hcs 0 _ rfl; have c1 := hcs 1 _ rfl; have c2 := hcs 2 _ rfl; have c3 := hcs 3 _ rfl; simp only [RangeR_size, Nat.add_zero] at c0 c1 c2 c3
   clear hd hcs hrep hlk h4 h5
   have hlt' : (k : Int) < l.length := by omega
   have hbx := (jb wr.heap.size wr).al (.cells #[.int .i64 x.first, .int .i64 x.last, .int .i64 x.owner, .int .i64 x.epoch] 40)
   have hWK : Hid (wrap64 ((k : Int) + 1) = ((k + 1 : Nat) : Int)) := jh (by have := HL.out.2; rw [wrap_in _ (by omega)]; rfl)
   have hxw : Hid (wrap64 (x.last + 1) = x.last + 1) := jh (wrap_in _ (by have := hf; omega))
   have g2 : decide (x.last < x.first) = false := decide_eq_false (by omega)
   have g3 : decide (4294967295 < x.last) = false := decide_eq_false (by omega)
   have g4 : decide (x.owner < 1) = false := decide_eq_false (by omega)
   have g5 : decide (5 < x.owner) = false := decide_eq_false (by omega)
   have g6 : decide (x.epoch < 1) = false := decide_eq_false (by omega)
   have g7 : decide (1099511627776 < x.epoch) = false := decide_eq_false (by omega)
   clear h2 h3 h6 h7 h8 h9
   go_wp2_with fail
   go_round
   case rel =>
    exact ⟨k + 1, x.last + 1, by omega, by rw [hWK.out], by rw [hxw.out], HD.out.1, HD.out.2.2, hbl.tr hbx⟩
   case measure => rw [hWK.out]; simp [intOf]; omega
  ·have hkn : k = l.length := by omega
   subst hkn
   have hs := HS.out
   rw [List.drop_length] at hs
   have hn1 : n = 4294967296 := by injection hs
   clear hs
   subst hn1
   have h64' : (l.length : Int) ≤ 64 := by have := HL.out.2; omega
   go_wp2_with fail
   go_ret
   exact ⟨rfl, hbl⟩
set_option maxRecDepth 20000 in
set_option maxHeartbeats 1600000 in
theorem rfind_any (A : Option Addr) (c : Nat) (l : List Range) (h : Int) (P : Nat → Prop) (w : World) (hr : RangeR.Row w P A l) (hs : soundR l = true) (h0 : 0 ≤ h) (h1 : h < 4294967296) :
 Calls Tryz.prog 24 #[.slice A l.length c, .int .i64 h] w fun e w' => e = .returned (Found (findR l h).1 (findR l h).2) ∧ Below w.heap.size w w' := by
 have hb0 := (jb w.heap.size w).al (.cells #[.int .i64 0, .int .i64 0, .int .i64 0, .int .i64 0] 40)
 have B0 := Blk.new w 40 [.int .i64 0, .int .i64 0, .int .i64 0, .int .i64 0]
 have CS := rsound_any A c l P (w.alloc (.cells #[.int .i64 0, .int .i64 0, .int .i64 0, .int .i64 0] 40)) (hr.ext hb0) hs
 have HR := jh (hr.mono (Q := fun g => g < w.heap.size) fun g _ h => h); clear hr
 have HS := jh (ja hs (ja h0 h1)); clear hs h0 h1
 go_enter Tryz.func24, Tryz.ntmps24
 go_wp2_with fail
 refine CS.mono ?_
 clear CS
 rintro e w1 ⟨rfl, hb1⟩
 have H1 := jh (ja (hb0.tr hb1) (B0.ext hb1))
 clear B0 hb0 hb1
 go_wp2_with fail
 go_loopw [6] (fun i wr => ∃ k : Nat, k ≤ l.length ∧ i = .int .i64 k ∧ (∀ x ∈ l.take k, x.has h = false) ∧ Below w.heap.size w wr ∧ Blk wr w.heap.size 40 [.int .i64 0, .int .i64 0, .int .i64 0, .int .i64 0]) (fun i _ => l.length - (intOf i).toNat)
 case atStart => exact ⟨0, Nat.zero_le _, rfl, by simp, H1.out.1, H1.out.2⟩
 case round =>
  obtain ⟨k, hk, rfl, hno, hw1, B1⟩ := hrel
  have HNO := jh hno; clear hno
  by_cases hlt : k < l.length
  ·have hlk := List.getElem?_eq_getElem hlt
   have hmem : l[k] ∈ l := List.getElem_mem hlt
   have htk : l.take (k + 1) = l.take k ++ [l[k]] := (List.take_append_getElem hlt).symm
   generalize l[k] = x at hlk hmem htk
   obtain ⟨b, o, cs, rfl, hP, hbw, hrep, hcs⟩ := (HR.out.ext hw1).at_ hlk
   obtain ⟨rfl, hf⟩ := range_rep.1 hrep
   have c0 := hcs 0 _ rfl; have c1 := hcs 1 _ rfl; have c2 := hcs 2 _ rfl; have c3 := hcs 3 _ rfl; simp only [RangeR_size, Nat.add_zero] at c0 c1 c2 c3
   have HB := jh B1
   have HM := jh (ja hmem htk)
   have hWK : Hid (wrap64 ((k : Int) + 1) = ((k + 1 : Nat) : Int)) := jh (by have := (sound_iff.1 HS.out.1).2; rw [wrap_in _ (by omega)]; rfl)
   clear hrep hcs hlk hmem htk
   have hlt' : (k : Int) < l.length := by omega
   have hne : b ≠ w.heap.size := by omega
   have hcase : (x.first ≤ h ∧ h ≤ x.last) ∨ (x.first ≤ h ∧ ¬ h ≤ x.last) ∨ ¬ x.first ≤ h := by omega
   rcases hcase with ⟨g1, g2⟩ | ⟨g1, g2⟩ | g1
   ·have HF := jh (find_eq HS.out.1 HS.out.2.1 HS.out.2.2 HM.out.1 (has_iff.2 ⟨g1, g2⟩))
    have f0 := B1.frozen 0
    have f1 := B1.frozen 1
    have f2 := B1.frozen 2
    have f3 := B1.frozen 3
    have b0 := B1.cell 0
    have b1 := B1.cell 1
    have b2 := B1.cell 2
    have b3 := B1.cell 3
    simp only [List.getElem?_cons_zero, List.getElem?_cons_succ] at b0 b1 b2 b3
    clear B1
    go_wp2_with fail
    rw [HF.out]
    exact bodyPost_ret (results_blk_tmp rfl _ ((((HB.out.set_ 0 (.int .i64 x.first)).set_ 1 (.int .i64 x.last)).set_ 2 (.int .i64 x.owner)).set_ 3 (.int .i64 x.epoch)) rfl Tryz.underlying40 rfl (by kernel_rfl)) rfl ⟨rfl, (((hw1.st (Nat.le_refl _) _).st (Nat.le_refl _) _).st (Nat.le_refl _) _).st (Nat.le_refl _) _⟩
   ·have g2' : decide (h ≤ x.last) = false := decide_eq_false g2
    have HX := jh (show x.has h = false from by rw [← Bool.not_eq_true, has_iff]; exact fun a => g2 a.2)
    clear g2
    go_wp2_with fail
    go_round
    case rel =>
     refine ⟨k + 1, by omega, by rw [hWK.out], ?_, hw1, HB.out⟩
     rw [HM.out.2]
     intro y hy
     rcases List.mem_append.1 hy with hy | hy
     ·exact HNO.out y hy
     ·rw [List.mem_singleton.1 hy]; exact HX.out
    case measure => rw [hWK.out]; simp [intOf]; omega
   ·have g1' : decide (x.first ≤ h) = false := decide_eq_false g1
    have HX := jh (show x.has h = false from by rw [← Bool.not_eq_true, has_iff]; exact fun a => g1 a.1)
    clear g1
    go_wp2_with fail
    go_round
    case rel =>
     refine ⟨k + 1, by omega, by rw [hWK.out], ?_, hw1, HB.out⟩
     rw [HM.out.2]
     intro y hy
     rcases List.mem_append.1 hy with hy | hy
     ·exact HNO.out y hy
     ·rw [List.mem_singleton.1 hy]; exact HX.out
    case measure => rw [hWK.out]; simp [intOf]; omega
  ·exfalso
   have hkn : k = l.length := by omega
   subst hkn
   obtain ⟨x, hx, hh⟩ := soundFrom_cover (sound_iff.1 HS.out.1).1 HS.out.2.1 HS.out.2.2
   have := HNO.out x (by rw [List.take_length]; exact hx)
   rw [hh] at this; cases this
end Go.Proofs.YtpgocpodhamibaaGreatDoor
namespace Go.Proofs.YtpgocpodhamibaaGreatDoor
theorem apply_self (s : St) (r : Rec) : (applyS s r).1.self = s.self := by
 unfold applyS
 split
 ·rfl
 unfold doS
 repeat' split
 ·unfold lifeS; split <;> rfl
 ·unfold ceilS; split <;> rfl
 ·unfold commitS; split <;> rfl
 ·unfold prepareS; repeat' split
  all_goals rfl
 ·unfold decideS; split
  ·rfl
  ·dsimp only; split <;> rfl
 ·unfold outcomeS; repeat' split
  all_goals rfl
 ·unfold forgetS; split <;> rfl
 ·unfold splitS; repeat' split
  all_goals rfl
 ·unfold freezeS; repeat' split
  all_goals rfl
 ·unfold installS; repeat' split
  all_goals rfl
 ·unfold releaseS; dsimp only; repeat' split
  all_goals rfl
theorem newS_self {self nodes : Int} {s : St} (h : newS self nodes = some s) : s.self = self := by
 unfold newS at h
 split at h
 ·cases h
 ·injection h with h; subst h; rfl
theorem fresh_few {s : St} {N : Nat} (h : Inv s N) (hN : N ≤ 20100) : (freshT s.table).length ≤ 40000 := by
 have h1 := (fresh_len h.tab).1
 have h2 := h.size
 omega
end Go.Proofs.YtpgocpodhamibaaGreatDoor
namespace Go.Proofs.YtpgocpodhamibaaGreatDoor
open Go.RowKit
set_option maxRecDepth 20000 in
set_option maxHeartbeats 1600000 in
theorem sameEvents_eq {l : List Event} (A A' : Option Addr) (c c' : Nat) (P P' : Nat → Prop) (w : World) (h : EventR.Row w P A l) (h' : EventR.Row w P' A' l) (hl : l.length ≤ 1000000) :
 Calls Tryz.prog 40 #[.slice A l.length c, .slice A' l.length c'] w fun e w' => e = .returned (.bool true) ∧ Below w.heap.size w w' := by
 have HR := jh (ja h h')
 clear h h'
 go_enter Tryz.func40, Tryz.ntmps40
 go_wp2_with fail
 go_loopw [5] (fun iv wr => ∃ k : Nat, k ≤ l.length ∧ iv = .int .i64 k ∧ Below w.heap.size w wr) (fun iv _ => l.length - (intOf iv).toNat)
 case atStart => exact ⟨0, Nat.zero_le _, rfl, jb _ _⟩
 case round =>
  obtain ⟨k, hk, rfl, hbl⟩ := hrel
  by_cases hlt : k < l.length
  ·have hlt' : (k : Int) < l.length := by omega
   have hlk := List.getElem?_eq_getElem hlt
   obtain ⟨b, o, cs, hA, _, _, hr, hcs⟩ := (HR.out.1.ext hbl).at_ hlk
   obtain ⟨b', o', cs', hA', _, _, hr', hcs'⟩ := (HR.out.2.ext hbl).at_ hlk
   generalize l[k] = x at *
   obtain ⟨rfl, _⟩ := event_rep.1 hr
   obtain ⟨rfl, _⟩ := event_rep.1 hr'
   subst hA hA'
   have c0 := hcs 0 _ rfl; have c1 := hcs 1 _ rfl; have c2 := hcs 2 _ rfl; have c3 := hcs 3 _ rfl; have c4 := hcs 4 _ rfl; have c5 := hcs 5 _ rfl; have c6 := hcs 6 _ rfl; simp only [EventR_size, Nat.add_zero] at c0 c1 c2 c3 c4 c5 c6
   have d0 := hcs' 0 _ rfl; have d1 := hcs' 1 _ rfl; have d2 := hcs' 2 _ rfl; have d3 := hcs' 3 _ rfl; have d4 := hcs' 4 _ rfl; have d5 := hcs' 5 _ rfl; have d6 := hcs' 6 _ rfl; simp only [EventR_size, Nat.add_zero] at d0 d1 d2 d3 d4 d5 d6
   clear hlk hr hr' hcs hcs'
   have HB := jh hbl
   clear hbl
   go_wp2_with fail
   go_quiet (fail)
   go_wp2_with fail
   go_round
   case rel => exact ⟨k + 1, by omega, by go_num, HB.out.drewN _⟩
   case measure => simp [intOf]; omega
  ·have HB := jh hbl
   clear hbl
   go_wp2_with fail
   go_ret
   exact ⟨rfl, HB.out⟩
set_option maxRecDepth 20000 in
set_option maxHeartbeats 3200000 in
theorem sameStreams_eq {l : List Stream} (A A' : Option Addr) (c c' : Nat) (P P' : Nat → Prop) (w : World) (h : StreamR.Row w P A l) (h' : StreamR.Row w P' A' l) (hl : l.length ≤ 1000000) (hd : ∀ s ∈ l, s.events.length ≤ 1000000 ∧ s.keys.length ≤ 1000000) :
 Calls Tryz.prog 35 #[.slice A l.length c, .slice A' l.length c'] w fun e w' => e = .returned (.bool true) ∧ Below w.heap.size w w' := by
 have HR := jh (ja h (ja h' hd))
 clear h h' hd
 go_enter Tryz.func35, Tryz.ntmps35
 go_wp2_with fail
 go_loopw [5] (fun iv wr => ∃ k : Nat, k ≤ l.length ∧ iv = .int .i64 k ∧ Below w.heap.size w wr) (fun iv _ => l.length - (intOf iv).toNat)
 case atStart => exact ⟨0, Nat.zero_le _, rfl, jb _ _⟩
 case round =>
  obtain ⟨k, hk, rfl, hbl⟩ := hrel
  by_cases hlt : k < l.length
  ·have hlt' : (k : Int) < l.length := by omega
   have hlk := List.getElem?_eq_getElem hlt
   have hdk := HR.out.2.2 _ (List.getElem_mem hlt)
   obtain ⟨b, o, cs, hA, _, _, hr, hcs⟩ := (HR.out.1.ext hbl).at_ hlk
   obtain ⟨b', o', cs', hA', _, _, hr', hcs'⟩ := (HR.out.2.1.ext hbl).at_ hlk
   generalize l[k] = x at *
   obtain ⟨eA, ec, kA, kc, rfl, _, _, _, he, _, _, hk1⟩ := stream_rep.1 hr
   obtain ⟨eA', ec', kA', kc', rfl, _, _, _, he', _, _, hk2⟩ := stream_rep.1 hr'
   subst hA hA'
   have c0 := hcs 0 _ rfl
   have c1 := hcs 1 _ rfl
   have c2 := hcs 2 _ rfl
   have d0 := hcs' 0 _ rfl
   have d1 := hcs' 1 _ rfl
   have d2 := hcs' 2 _ rfl
   simp only [StreamR_size, Nat.add_zero] at c0 c1 c2 d0 d1 d2
   have HC := jh (ja c2 d2)
   have c0 := On.cell c0
   have c1 := On.cell c1
   have c2 := On.cell c2
   have d0 := On.cell d0
   have d1 := On.cell d1
   have d2 := On.cell d2
   have HE := jh (ja he (ja he' (ja hk1 (ja hk2 hdk))))
   have HB := jh hbl
   clear hlk hr hr' hcs hcs' he he' hk1 hk2 hbl hdk
   go_upto_region 6 with fail
   refine wp_region_mix (.seg [0, 1, 2, 3, 4, 5, 6, 7, 8, 9, 10, 11, 12, 13, 14, 15, 16, 17, 18, 19, 20, 21] 22 (.leaf [23, 24, 25, 26, 27, 28, 29, 30, 31, 32, 33, 34, 35, 36, 37, 38, 39])) (fun w' => ∃ d : Wd (On wr), w' = d.w) (by kernel_rfl) (by kernel_rfl) (fun _ _ d _ _ h => by cases d <;> exact h) (ClsW.mk (jb _ _).drew) ?_
   unfold wpMix; simp only [pick, j1, j2, j3, j4]
   (repeat (show wpQuiet _ _ _ _ (_ :: _) _; go_big_quiet_step (fail))); refine qn ?_
   have CE := sameEvents_eq eA eA' ec ec' _ _ wr.drew (HE.out.1.ext (jb _ _).drew) (HE.out.2.1.ext (jb _ _).drew) HE.out.2.2.2.2.1
   go_wp2_with fail
   refine CE.mono ?_
   clear CE
   rintro e w2 ⟨rfl, hb2'⟩
   have hb2 : Below wr.heap.size wr w2 := (jb _ wr).drew.tr hb2'
   clear hb2'
   go_wp2_with fail
   (dsimp only [wpList, SegQ]; refine ⟨fun w' => ∃ d : Wd (On wr), w' = d.w, ClsW.mk (hb2), fun _ h => h, ?_⟩; unfold wpMix; simp only [pick, j1, j2, j3, j4]; (repeat (show wpQuiet _ _ _ _ (_ :: _) _; go_big_quiet_step (fail))); refine qn ?_)
   have HB2 := jh (ja (HB.out.tr hb2) hb2)
   clear c0 c1 c2 d0 d1 d2 hb2
   go_wp2_with fail
   have z2 := HC.out.1
   have z2' := HC.out.2
   have y2 : w2.cell? ⟨b, o + k * 3 + 2, none⟩ = some (.slice kA x.keys.length kc) := (Below.cell HB2.out.2 (p := ⟨b, o + k * 3 + 2, none⟩) (lt_of_cell z2)).trans z2
   have y2' : w2.cell? ⟨b', o' + k * 3 + 2, none⟩ = some (.slice kA' x.keys.length kc') := (Below.cell HB2.out.2 (p := ⟨b', o' + k * 3 + 2, none⟩) (lt_of_cell z2')).trans z2'
   clear z2 z2'
   have HY := jh (ja y2 y2')
   clear y2 y2'
   go_loopw [6] (fun jv wx => ∃ j : Nat, j ≤ x.keys.length ∧ jv = .int .i64 j ∧ Below w2.heap.size w2 wx) (fun jv _ => x.keys.length - (intOf jv).toNat)
   case atStart => exact ⟨0, Nat.zero_le _, rfl, jb _ _⟩
   case round =>
    obtain ⟨j, hj, rfl, hbj⟩ := hrel
    have y2 : wr.cell? ⟨b, o + k * 3 + 2, none⟩ = some (.slice kA x.keys.length kc) := (Below.cell hbj (p := ⟨b, o + k * 3 + 2, none⟩) (lt_of_cell HY.out.1)).trans HY.out.1
    have y2' : wr.cell? ⟨b', o' + k * 3 + 2, none⟩ = some (.slice kA' x.keys.length kc') := (Below.cell hbj (p := ⟨b', o' + k * 3 + 2, none⟩) (lt_of_cell HY.out.2)).trans HY.out.2
    have hkl := HE.out.2.2.2.2.2
    by_cases hjt : j < x.keys.length
    ·have hjt' : (j : Int) < x.keys.length := by omega
     have hlj := List.getElem?_eq_getElem hjt
     obtain ⟨q, p, cs, hA, _, _, hr, hcs⟩ := ((HE.out.2.2.1.ext HB2.out.2).ext hbj).at_ hlj
     obtain ⟨q', p', cs', hA', _, _, hr', hcs'⟩ := ((HE.out.2.2.2.1.ext HB2.out.2).ext hbj).at_ hlj
     generalize x.keys[j] = y at *
     obtain ⟨rfl, _⟩ := known_rep.1 hr
     obtain ⟨rfl, _⟩ := known_rep.1 hr'
     subst hA hA'
     have c0 := hcs 0 _ rfl; have c1 := hcs 1 _ rfl; have c2 := hcs 2 _ rfl; have c3 := hcs 3 _ rfl; have c4 := hcs 4 _ rfl; simp only [KnownR_size, Nat.add_zero] at c0 c1 c2 c3 c4
     have d0 := hcs' 0 _ rfl
     have d1 := hcs' 1 _ rfl
     have d2 := hcs' 2 _ rfl
     have d3 := hcs' 3 _ rfl
     have d4 := hcs' 4 _ rfl
     simp only [KnownR_size, Nat.add_zero] at d0 d1 d2 d3 d4
     clear hlj hr hr' hcs hcs'
     have HJ := jh hbj
     clear hbj
     go_wp2_with fail
     go_quiet (fail)
     go_wp2_with fail
     go_round
     case rel => exact ⟨j + 1, by omega, by go_num, HJ.out.drewN _⟩
     case measure => simp [intOf]; omega
    ·have hjn : (x.keys.length : Int) ≤ j := by omega
     have HJ := jh hbj
     clear hbj
     go_wp2_with fail
     go_round
     case rel => exact ⟨k + 1, by omega, by go_num, HB2.out.1.tr HJ.out⟩
     case measure => simp [intOf]; omega
  ·have HB := jh hbl
   clear hbl
   go_wp2_with fail
   go_ret
   exact ⟨rfl, HB.out⟩
end Go.Proofs.YtpgocpodhamibaaGreatDoor
namespace Go.Proofs.YtpgocpodhamibaaGreatDoor
open Go.RowKit
theorem i64_wfL {n : Int} (h : (Lit.int .i64 n).wf = true) : i64 n := by
 have h1 : IntKind.i64.min ≤ n ∧ n ≤ IntKind.i64.max := by simpa [Lit.wf] using h
 have e1 : IntKind.i64.min = -9223372036854775808 := rfl
 have e2 : IntKind.i64.max = 9223372036854775807 := rfl
 rw [e1, e2] at h1
 exact h1
theorem Fit.ring_ {s : St} (h : Fit s) {l : List Range} (hl : l.length ≤ 1000000) : Fit { s with ring := l } :=
 ⟨h.self, hl, h.vers, h.fits, ⟨h.fair.len, h.fair.each, h.fair.put, h.fair.log, h.fair.vers⟩, h.frozen, h.held⟩
set_option maxRecDepth 20000 in
set_option maxHeartbeats 12800000 in
theorem learns_law (self nodes : Int) (l : List Rec) (learn : List Range) (hash : Int) (A A' : Option Addr) (c c' : Nat) (w : World) (hi1 : i64 self) (hi2 : i64 nodes)
 (hr : RecR.Row w (fun k => k < w.heap.size) A l) (hc : l.length ≤ c ∧ c ≤ 9223372036854775807) (hr' : RangeR.Row w (fun k => k < w.heap.size) A' learn) (hc' : learn.length ≤ c' ∧ c' ≤ 9223372036854775807) (hT : Tabs w) (h2 : 2 ≤ w.heap.size) :
 Calls Tryz.prog 8 #[.int .i64 self, .int .i64 nodes, .slice A l.length c, .slice A' learn.length c', .int .i64 hash] w fun e w' => e = .returned (.bool true) ∧ Below w.heap.size w w' := by
 have CA := jh (fun W (hW : Below w.heap.size w W) => awake_any W (hT.below hW) (by have := hW.size; omega))
 have HR := jh (show RcB w l A w from ⟨hr, hT, jb _ _⟩)
 have HL := jh hr'
 have C1 := small_any l A c _ w hr hc
 have HI := jh (ja hi1 hi2)
 have hl63 : (learn.length : Int) ≤ 9223372036854775807 := by omega
 clear hr hr' hT hi1 hi2
 go_enter Tryz.func8, Tryz.ntmps8
 go_wp2_with fail
 refine C1.mono ?_
 clear C1
 rintro e w0 ⟨⟨sb, rfl, hsb⟩, hb0⟩
 have H0 := jh (HR.out.ext hb0)
 clear hb0
 by_cases hbad : sb = false ∨ (sb = true ∧ (70 : Int) < learn.length) ∨ (sb = true ∧ ¬ (70 : Int) < learn.length ∧ hash < 0) ∨ (sb = true ∧ ¬ (70 : Int) < learn.length ∧ ¬ hash < 0 ∧ 4294967295 < hash)
 ·rcases hbad with h | ⟨h, g1⟩ | ⟨h, g1, g2⟩ | ⟨h, g1, g2, g3⟩
  all_goals
   subst h
   clear hsb
   try have g1' : decide ((70 : Int) < learn.length) = false := decide_eq_false g1
   try have g2' : decide (hash < 0) = false := decide_eq_false g2
   go_wp2_with fail
   refine (CA.out w0 H0.out.below).mono ?_
   rintro e w1 ⟨rfl, hb1⟩
   go_wp2_with fail
   go_ret
   exact ⟨rfl, H0.out.below.tr hb1⟩
 obtain ⟨rfl, hl70, hh0, hh1⟩ : sb = true ∧ ¬ (70 : Int) < learn.length ∧ ¬ hash < 0 ∧ ¬ 4294967295 < hash := by
  cases sb
  ·exact absurd (.inl rfl) hbad
  ·simp only [Bool.true_eq_false, false_or, true_and] at hbad
   refine ⟨rfl, ?_, ?_, ?_⟩ <;> omega
 clear hbad
 have HSM := jh (hsb rfl)
 have hl80 : (l.length : Int) ≤ 80 := by have := HSM.out.1; omega
 have hz0 := H0.out.below.size
 have g1 : decide ((70 : Int) < learn.length) = false := decide_eq_false hl70
 have g2 : decide (hash < 0) = false := decide_eq_false hh0
 have g3 : decide (4294967295 < hash) = false := decide_eq_false hh1
 have HH := jh (ja hl70 (ja hh0 hh1))
 clear hsb HR hc hl70 hh0 hh1
 have C2 := newState_any self nodes w0 HI.out.1 HI.out.2
 unfold GotState at C2
 cases hnw : newS self nodes with
 | none =>
   rw [hnw] at C2
   dsimp only at C2
   clear hnw
   go_wp2_with fail
   refine C2.mono ?_
   clear C2
   rintro e w1 ⟨rfl, hb1⟩
   have H1 := jh (H0.out.below.tr hb1)
   clear hb1
   go_wp2_with fail
   refine (CA.out w1 H1.out).mono ?_
   rintro e w2 ⟨rfl, hb2⟩
   go_wp2_with fail
   go_ret
   exact ⟨rfl, H1.out.tr hb2⟩
 | some s0 =>
 rw [hnw] at C2
 dsimp only at C2
 have HNW := jh hnw
 clear hnw
 go_wp2_with fail
 refine C2.mono ?_
 clear C2 g1 g2 g3
 rintro e w1 ⟨⟨g, rfl, hg, hst, _⟩, hb1⟩
 have hz1 := hb1.size
 have hgl := hst.lt
 have H1 := jh (ja (hst.mono (Q := fun k => w.heap.size ≤ k ∧ k ≠ g) (fun k hk => ⟨by have := hk.1; omega, hk.2⟩)) (H0.out.ext hb1))
 clear hst hb1
 unfold ptrV
 go_wp2_with fail
 go_loopw [13] (fun iv wr => ∃ (i : Nat) (s : St), i ≤ l.length ∧ iv = .int .i64 i ∧ StAt wr (fun k => w.heap.size ≤ k ∧ k ≠ g) g s ∧ Inv s (costL (l.take i)) ∧ s.self = self ∧ Only (fun k => k = g) w1 wr) (fun iv _ => l.length - (intOf iv).toNat)
 case atStart => exact ⟨0, s0, Nat.zero_le _, rfl, H1.out.1, inv_new HNW.out, newS_self HNW.out, Only.refl _ _⟩
 case round =>
  obtain ⟨i, s, hin, rfl, hst, hI, hsf, hO⟩ := hrel
  have hzr := hO.size
  have hRB := H1.out.2.only hO (by omega) (by omega)
  have hct := costL_tk l i
  have hcl : costL l ≤ 20000 := by have h1 := HSM.out.2; have h2 := (sizeRs_bd l).1; omega
  have HS := jh (ja hst (ja hI (ja hsf (ja hO hRB))))
  have HF := jh (hI.fit (by omega))
  have HFF := jh (fresh_few hI (by omega))
  have HRG := jh (show s.ring.length ≤ 64 from (sound_iff.1 hI.ring).2)
  clear hst hI hsf hO hRB
  by_cases hlt : i < l.length
  ·have hlt' : (i : Int) < l.length := by omega
   have hli := List.getElem?_eq_getElem hlt
   have hmem := List.getElem_mem hlt
   have hcn := costL_take hlt
   have hcn1 := costL_tk l (i + 1)
   have hsz : sizeR l[i] ≤ 20000 := by have h1 := HSM.out.2; have h2 := (sizeRs_bd l).2 _ hmem; omega
   have hfair := sizeR_fair hsz
   have hput := sizeR_put hsz
   obtain ⟨bb, o, nA, nc, pA, pc, sA, sc, rfl, hbw, hrec, hcs⟩ := recs_at HS.out.2.2.2.2.r hli
   generalize l[i] = r at *
   have HC := jh (ja hcn (ja hcs (ja hrec hfair)))
   have CAP := applyAll_any g s r nA pA sA nc pc sc _ (fun k => k < w.heap.size) wr HS.out.1 (fun h => h.2 rfl) HF.out hrec (fun h => by omega) hfair HS.out.2.2.2.2.tabs (by omega) hput (by have := HRG.out; omega) HFF.out
   clear hli hmem hcn hcs hrec hfair hsz hput
   unfold StOut ptrV at CAP
   have hI2 := apply_inv (r := r) HS.out.2.1 (by omega)
   have hs2 := apply_self s r
   generalize applyS s r = q at CAP hI2 hs2
   obtain ⟨s2, code⟩ := q
   dsimp only at CAP hI2 hs2
   have H2 := jh (ja hI2 hs2)
   clear hI2 hs2
   go_wp2_with (first
    | ((with_reducible refine wpList_load_at rfl rfl ?_ HC.out.2.1 Tryz.underlying43 rfl (by kernel_rfl) ?_); · rfl)
    | fail)
   refine CAP.mono ?_
   clear CAP
   rintro e w3 ⟨rfl, hst3, hO3⟩
   have H3 := jh (ja (hst3.mono (Q := fun k => w.heap.size ≤ k ∧ k ≠ g) (fun k hk => by
    rcases hk with h | h
    ·exact h
    ·exact ⟨by omega, by omega⟩)) hO3)
   clear hst3 hO3
   go_wp2_with fail
   go_round
   case rel => exact ⟨i + 1, s2, by omega, by go_num, H3.out.1, by rw [HC.out.1]; exact H2.out.1, by rw [H2.out.2]; exact HS.out.2.2.1, HS.out.2.2.2.1.tr H3.out.2⟩
   case measure => simp [intOf]; omega
  ·have hself := HS.out.2.1.self
   have hs0 : s.self ≠ 0 := by omega
   have hlog : s.log.length ≤ 20000 := by have := HS.out.2.1.log; omega
   have hfz : s.frozen.length ≤ 1000000 := HF.out.frozen
   obtain ⟨x, y, hfx, hfy, hxy1, hxy2, hxy3⟩ := merge_find (me := s.self) (theirs := learn) HS.out.2.1.ring (h := hash) (by have := HH.out; omega) (by have := HH.out; omega)
   have hms := merge_sound (me := s.self) (theirs := learn) HS.out.2.1.ring
   rw [HS.out.2.2.1] at hxy1 hxy2
   have HXY := jh (ja hfx (ja hfy (ja hxy1 (ja hxy2 (ja hxy3 hms)))))
   have HS0 := jh (ja hs0 (ja hlog hfz))
   have HWB := jh HS.out.2.2.2.2.below
   clear hself hs0 hlog hfz hfx hfy hxy1 hxy2 hxy3 hms
   have CR := sranges_any g s _ wr HS.out.1 HS0.out.1 (by have := HRG.out; omega)
   unfold ptrV GotOwn at CR
   go_wp2_with fail
   refine CR.mono ?_
   clear CR
   rintro e w2 ⟨⟨v2, rfl, ho2⟩, hb2⟩
   obtain ⟨A2, c2, rfl, _⟩ := ho2.form
   have CF := rfind_any A2 c2 s.ring hash (fun _ => True) w2 ((ho2.mono (S' := fun _ => True) fun _ _ _ => trivial).row fun _ _ => trivial) HS.out.2.1.ring (by have := HH.out; omega) (by have := HH.out; omega)
   unfold Found at CF
   rw [HXY.out.1] at CF
   dsimp only at CF
   have H2 := jh hb2
   clear ho2 hb2
   go_wp2_with fail
   refine CF.mono ?_
   clear CF
   rintro e w3 ⟨rfl, hb3⟩
   have hb4 := (H2.out.tr hb3).al (.cells x.cells.toArray 40)
   have B4 := Blk.new w3 40 x.cells
   unfold Range.cells at hb4 B4
   have hz3 := hb3.size
   clear hb3
   go_upto_region 11 with fail
   have hzz : w3.heap.size < (w3.alloc (.cells #[.int .i64 x.first, .int .i64 x.last, .int .i64 x.owner, .int .i64 x.epoch] 40)).heap.size := by simp
   generalize (w3.alloc (.cells #[.int .i64 x.first, .int .i64 x.last, .int .i64 x.owner, .int .i64 x.epoch] 40)) = w4 at *
   have H4 := jh (ja hb4 B4)
   clear hb4 B4
   have CL := slog_any g s _ w4 (HS.out.1.ext H4.out.1) HS0.out.1 (by have := HS0.out.2.1; omega)
   unfold ptrV GotOwn at CL
   go_wp2_with fail
   refine CL.mono ?_
   clear CL
   rintro e w5 ⟨⟨v5, rfl, ho5⟩, hb5⟩
   obtain ⟨A5, c5, rfl, _⟩ := ho5.form
   have H5 := jh (ja (ho5.row' event_plain (P := fun q => w4.heap.size ≤ q) fun q hq => (ho5.lt q hq).1) (ja (H4.out.1.tr hb5) (H4.out.2.ext hb5)))
   clear ho5
   go_wp2_with fail
   refine (all_any _).mono ?_
   rintro e w6 ⟨rfl, hb6⟩
   have hz6 := hb6.size
   have H6 := jh (ja (H5.out.1.ext hb6) (ja (H5.out.2.1.tr hb6) (H5.out.2.2.ext hb6)))
   have CT := stakeN_any g s allHashes _ w6 (HS.out.1.ext H6.out.2.1) HF.out
   unfold ptrV GotStN at CT
   go_wp2_with fail
   refine CT.mono ?_
   clear CT
   rintro e w7 ⟨⟨A7, c7, rfl, hrow7⟩, hb7⟩
   have H7 := jh (ja hrow7 (ja (H6.out.1.ext hb7) (ja (H6.out.2.1.tr hb7) (H6.out.2.2.ext hb7))))
   clear hrow7
   have CFZ := sfrozen_any g s _ w7 (HS.out.1.ext H7.out.2.2.1) HS0.out.1 HS0.out.2.2
   unfold ptrV GotOwn at CFZ
   go_wp2_with fail
   refine CFZ.mono ?_
   clear CFZ
   rintro e w8 ⟨⟨v8, rfl, ho8⟩, hb8⟩
   obtain ⟨A8, c8, rfl, _⟩ := ho8.form
   have hst8 := HS.out.1.ext (H7.out.2.2.1.tr hb8)
   have CLN := learn_any g s _ _ w8 hst8 (fun h => h.2 rfl) HS0.out.1 A' c' learn ((HL.out.ext HWB.out).ext (H7.out.2.2.1.tr hb8)) (by have := HH.out; omega) (by have := HRG.out; omega)
   have hz5 := hb5.size
   have hz7 := hb7.size
   have hz8 := hb8.size
   have hzr4 := H4.out.1.size
   have hgr : g < wr.heap.size := HS.out.1.lt
   have hx3 : w3.heap.size ≠ g := by have := H2.out.size; omega
   have H8 := jh (ja (H7.out.1.ext hb8) (ja (H7.out.2.1.ext hb8) (ja (H7.out.2.2.1.tr hb8) (H7.out.2.2.2.ext hb8))))
   clear ho8 hst8 hb8 hb7 hb6 hb5
   unfold ptrV at CLN
   go_wp2_with fail
   refine CLN.mono ?_
   clear CLN
   rintro e w9 ⟨rfl, hst9, hO9⟩
   have hz9 := hO9.size
   have hW9 : Below w.heap.size w w9 := (HWB.out.tr H8.out.2.2.1).trans (hO9.low (fun k e => by have e' : k = g := e; omega) (by omega))
   have H9 := jh (ja hst9 (ja (H8.out.1.same (Same.of_only hO9 fun k hk e => by have e' : k = g := e; have hk' : w6.heap.size ≤ k := hk; omega) hO9.size) (ja (H8.out.2.1.same (Same.of_only hO9 fun k hk e => by have e' : k = g := e; have hk' : w4.heap.size ≤ k := hk; omega) hO9.size) (ja hW9 (H8.out.2.2.2.only hO9 hx3)))))
   have HF2 := jh (HF.out.ring_ (l := mergeR s.self s.ring learn) (by have := (sound_iff.1 HXY.out.2.2.2.2.2).2; omega))
   clear hst9 hO9 hW9
   have CR := sranges_any g { s with ring := mergeR s.self s.ring learn } _ w9 H9.out.1 HS0.out.1 HF2.out.ring
   unfold ptrV GotOwn at CR
   go_wp2_with fail
   refine CR.mono ?_
   clear CR
   rintro e w10 ⟨⟨v10, rfl, ho10⟩, hb10⟩
   obtain ⟨A10, c10, rfl, _⟩ := ho10.form
   have CF := rfind_any A10 c10 (mergeR s.self s.ring learn) hash (fun _ => True) w10 ((ho10.mono (S' := fun _ => True) fun _ _ _ => trivial).row fun _ _ => trivial) HXY.out.2.2.2.2.2 (by have := HH.out; omega) (by have := HH.out; omega)
   unfold Found at CF
   rw [HXY.out.2.1] at CF
   dsimp only at CF
   have H10 := jh hb10
   clear ho10 hb10
   go_wp2_with fail
   refine CF.mono ?_
   clear CF
   rintro e w11 ⟨rfl, hb11⟩
   have hb12 := (H10.out.tr hb11).al (.cells y.cells.toArray 40)
   have B12 := Blk.new w11 40 y.cells
   have hxy : w3.heap.size ≠ w11.heap.size := by have := H9.out.2.2.2.2.lt; have := H10.out.size; have := hb11.size; omega
   unfold Range.cells at hb12 B12
   clear hb11
   go_upto_region 16 with fail
   generalize (w11.alloc (.cells #[.int .i64 y.first, .int .i64 y.last, .int .i64 y.owner, .int .i64 y.epoch] 40)) = w12 at *
   have B4 := H9.out.2.2.2.2.ext hb12
   have H12 := jh (ja (H9.out.1.ext hb12) (ja (H9.out.2.1.ext hb12) (ja (H9.out.2.2.1.ext hb12) (H9.out.2.2.2.1.tr hb12))))
   clear hb12
   go_cut [118] (fun bv wx => bv = .bool false ∧ wx = w12)
   case first =>
    have a0 : w12.cell? ⟨w3.heap.size, 0, none⟩ = some (.int .i64 x.first) := B4.cell 0
    have a1 : w12.cell? ⟨w3.heap.size, 1, none⟩ = some (.int .i64 x.last) := B4.cell 1
    have a2 : w12.cell? ⟨w3.heap.size, 2, none⟩ = some (.int .i64 x.owner) := B4.cell 2
    have a3 : w12.cell? ⟨w3.heap.size, 3, none⟩ = some (.int .i64 x.epoch) := B4.cell 3
    have b0 : w12.cell? ⟨w11.heap.size, 0, none⟩ = some (.int .i64 y.first) := B12.cell 0
    have b1 : w12.cell? ⟨w11.heap.size, 1, none⟩ = some (.int .i64 y.last) := B12.cell 1
    have b2 : w12.cell? ⟨w11.heap.size, 2, none⟩ = some (.int .i64 y.owner) := B12.cell 2
    have b3 : w12.cell? ⟨w11.heap.size, 3, none⟩ = some (.int .i64 y.epoch) := B12.cell 3
    have g3 : decide (y.epoch < x.epoch) = false := decide_eq_false (by have := HXY.out.2.2.2.2.1; omega)
    clear B4 B12
    by_cases ho : x.owner = self
    ·have hyx := HXY.out.2.2.2.1 ho
     rw [hyx] at b0 b1 b2 b3 g3
     rw [ho] at a2 b2
     clear ho hyx
     go_wp2_with fail
     go_meet
     exact ⟨rfl, rfl⟩
    ·have g1 : (x.owner == self) = false := beq_eq_false_iff_ne.2 ho
     have g2 : (y.owner == self) = false := beq_eq_false_iff_ne.2 fun e => ho (HXY.out.2.2.1.2 e)
     clear ho
     go_wp2_with fail
     go_meet
     exact ⟨rfl, rfl⟩
   case rest =>
   obtain ⟨rfl, hwc⟩ := hcut
   subst hwc
   clear B4 B12
   have CL := slog_any g { s with ring := mergeR s.self s.ring learn } _ wc H12.out.1 HS0.out.1 (by have := HS0.out.2.1; show s.log.length ≤ _; omega)
   unfold ptrV GotOwn at CL
   go_wp2_with fail
   refine CL.mono ?_
   clear CL
   rintro e w13 ⟨⟨v13, rfl, ho13⟩, hb13⟩
   have ho13 : EventR.Own w13 wc.heap.size 63 (fun _ => False) v13 s.log := ho13
   obtain ⟨A13, c13, rfl, _⟩ := ho13.form
   have CE := sameEvents_eq A13 A5 c13 c5 (fun _ => True) _ w13 (ho13.row' event_plain fun _ _ => trivial) (H12.out.2.2.1.ext hb13) (by have := HS0.out.2.1; omega)
   have H13 := jh hb13
   clear ho13 hb13
   go_wp2_with fail
   refine CE.mono ?_
   clear CE
   rintro e w14 ⟨rfl, hb14⟩
   have H14 := jh (H13.out.tr hb14)
   clear hb14
   go_wp2_with fail
   refine (all_any _).mono ?_
   rintro e w15 ⟨rfl, hb15⟩
   have H15 := jh (H14.out.tr hb15)
   clear hb15
   have CT := stakeN_any g { s with ring := mergeR s.self s.ring learn } allHashes _ w15 (H12.out.1.ext H15.out) HF2.out
   unfold ptrV GotStN at CT
   go_wp2_with fail
   refine CT.mono ?_
   clear CT
   rintro e w16 ⟨⟨A16, c16, rfl, hrow16⟩, hb16⟩
   have CS := sameStreams_eq A16 A7 c16 c7 _ _ w16 hrow16 (H12.out.2.1.ext (H15.out.tr hb16)) (by have := HF.out.fair.put.1; omega) (fun x hx => by have := HF.out.fair.put.2 x hx; omega)
   have H16 := jh (H15.out.tr hb16)
   clear hrow16 hb16
   go_wp2_with fail
   refine CS.mono ?_
   clear CS
   rintro e w17 ⟨rfl, hb17⟩
   have H17 := jh (H16.out.tr hb17)
   clear hb17
   have CFZ := sfrozen_any g { s with ring := mergeR s.self s.ring learn } _ w17 (H12.out.1.ext H17.out) HS0.out.1 HS0.out.2.2
   unfold ptrV GotOwn at CFZ
   go_wp2_with fail
   refine CFZ.mono ?_
   clear CFZ
   rintro e w18 ⟨⟨v18, rfl, ho18⟩, hb18⟩
   have ho18 : RecR.Own w18 w17.heap.size 43 _ v18 s.frozen := ho18
   obtain ⟨A18, c18, rfl, _⟩ := ho18.form
   have H18 := jh (H12.out.2.2.2.tr (H17.out.tr hb18))
   clear ho18 hb18
   go_wp2_with fail
   refine (CA.out w18 H18.out).mono ?_
   rintro e w19 ⟨rfl, hb19⟩
   go_wp2_with fail
   go_ret
   exact ⟨rfl, H18.out.tr hb19⟩
end Go.Proofs.YtpgocpodhamibaaGreatDoor
namespace Go.Proofs.YtpgocpodhamibaaGreatDoor
set_option maxRecDepth 100000
open Go.RowKit Go.ChangeShapes Go.WideShapes Go.Deep
def Opens {α : Type} (R : Rep α) (t : TypeId) : Prop := Tryz.prog.cellsOf t = R.size ∧ ∀ (H : Type) (enc : TypeId × Value → H) (w : World) (base : Nat) (sp : Nat → Bool) (held : Bool) (fuel : Nat) (cs : List Value) (x : DataW H × List MemPlace),
 DataW.trod enc Tryz.prog w base sp held fuel t cs = some x → ∃ a, R.rep w (fun g => g < w.heap.size) cs a
def Parts {H : Type} (enc : TypeId × Value → H) (w : World) (base : Nat) (sp : Nat → Bool) (held : Bool) (fuel : Nat) : List TypeId → List Value → Prop
 | [], cs => cs = []
 | t :: ts, cs => (∃ y, DataW.trod enc Tryz.prog w base sp held fuel t (cs.take (Tryz.prog.cellsOf t)) = some y) ∧ Parts enc w base sp held fuel ts (cs.drop (Tryz.prog.cellsOf t))
def OpensF {α : Type} (R : Rep α) (ts : List TypeId) : Prop := ∀ (H : Type) (enc : TypeId × Value → H) (w : World) (base : Nat) (sp : Nat → Bool) (held : Bool) (fuel : Nat) (cs : List Value), Parts enc w base sp held fuel ts cs → ∃ a, R.rep w (fun g => g < w.heap.size) cs a
def offB (P : Program) (n : Nat) : List Field → Nat → Bool
 | [], off => decide (off = n)
 | f :: r, off => decide (f.offset = off) && offB P n r (off + P.cellsOf f.type)
section
variable {α β : Type} {R : Rep α} {S : Rep β}
theorem parts_of {H : Type} {enc : TypeId × Value → H} {w : World} {base : Nat} {sp : Nat → Bool} {held : Bool} {fuel : Nat} {cs : List Value} : ∀ (fs : List Field) (off : Nat), (∀ f ∈ fs, ∃ y, DataW.trod enc Tryz.prog w base sp held fuel f.type ((cs.drop f.offset).take (Tryz.prog.cellsOf f.type)) = some y) → offB Tryz.prog cs.length fs off = true →
 Parts enc w base sp held fuel (fs.map (·.type)) (cs.drop off)
 | [], off, _, ho => by
   simp only [offB, decide_eq_true_eq] at ho
   subst ho
   simp [Parts]
 | f :: r, off, h, ho => by
   simp only [offB, Bool.and_eq_true, decide_eq_true_eq] at ho
   obtain ⟨rfl, ho⟩ := ho
   refine ⟨h f (by simp), ?_⟩
   have := parts_of r _ (fun g hg => h g (by simp [hg])) ho
   rwa [List.drop_drop]
theorem Opens.one {t : TypeId} (h : Opens R t) : OpensF R [t] := fun H enc w base sp held fuel cs hp => by
 obtain ⟨⟨y, hy⟩, hd⟩ := hp
 obtain ⟨a, ha⟩ := h.2 _ _ _ _ _ _ _ _ _ hy
 simp only [Parts] at hd
 rw [List.take_of_length_le (by simpa using hd)] at ha
 exact ⟨a, ha⟩
theorem Opens.more {t : TypeId} {ts : List TypeId} (h : Opens R t) (k : OpensF S ts) : OpensF (R.cat S) (t :: ts) := fun H enc w base sp held fuel cs hp => by
 obtain ⟨⟨y, hy⟩, hd⟩ := hp
 obtain ⟨a, ha⟩ := h.2 _ _ _ _ _ _ _ _ _ hy
 obtain ⟨b, hb⟩ := k _ _ _ _ _ _ _ _ hd
 exact ⟨(a, b), _, _, (List.take_append_drop _ _).symm, ha, hb⟩
theorem OpensF.struct {fs : Array Field} {t : TypeId} (ht : Tryz.prog.underlying t = some (.struct fs)) (hc : Tryz.prog.cellsOf t = R.size) (ho : offB Tryz.prog (Tryz.prog.cellsOf t) fs.toList 0 = true) (h : OpensF R (fs.toList.map (·.type))) : Opens R t := ⟨hc, fun H enc w base sp held fuel cs x hx => by
 obtain ⟨xs, n, _, _, hl, hxl, hf⟩ := DataW.trod_struct ht hx
 have := parts_of (enc := enc) (w := w) (base := base) (sp := sp) (held := held) (fuel := n) (cs := cs) fs.toList 0 (fun f hfm => by
  obtain ⟨i, hi, rfl⟩ := List.getElem_of_mem hfm
  have h1 := hf i fs.toList[i] (by simp at hi; simp [hi])
  rw [h1]
  have : i < xs.length := by rw [hxl]; simpa using hi
  exact ⟨xs[i], List.getElem?_eq_getElem this⟩) (by rw [hl]; exact ho)
 exact h _ _ _ _ _ _ _ _ (by simpa using this)⟩
theorem Opens.via {t : TypeId} {f : β → α} (g : α → β) (hg : ∀ a, f (g a) = a) (h : Opens R t) : Opens (R.via f) t := ⟨h.1, fun H enc w base sp held fuel cs x hx => by
 obtain ⟨a, ha⟩ := h.2 _ _ _ _ _ _ _ _ _ hx
 refine ⟨g a, ?_⟩
 show R.rep _ _ _ (f (g a))
 rw [hg]; exact ha⟩
theorem Opens.sl {t e : TypeId} (ht : Tryz.prog.underlying t = some (.slice e)) (hc : Tryz.prog.cellsOf t = 1) (h : Opens R e) : Opens R.sl t := ⟨hc, fun H enc w base sp held fuel cs x hx => by
 rcases open_slice ht hx with ⟨h0, _⟩ | ⟨a, len, cap, m, n, D, Pl, hcs, hb, hl, hcap, hmm, _, hi⟩
 ·exact ⟨[], none, 0, h0, Nat.le_refl _, by simp, Rep.Row.nil_⟩
 ·have hlm : len ≤ m := by rw [hmm]; split <;> omega
  rw [h.1] at hi
  have hcap' : cap ≤ 9223372036854775807 := by unfold maxLen at hcap; omega
  by_cases hz : len = 0
  ·exact ⟨[], some a, cap, by rw [hcs, hz]; rfl, Nat.zero_le _, hcap', Rep.Row.nil_⟩
  have key : ∀ i, i < len → ∃ cs' y, R.rep w (fun g => g < w.heap.size) cs' y ∧ ∀ j u, cs'[j]? = some u → w.cell? (a.add (i * R.size + j)) = some u := fun i hil => by
   obtain ⟨cs', h1, h2⟩ := hi i (by omega)
   obtain ⟨y, hy⟩ := h.2 _ _ _ _ _ _ _ _ _ h2
   obtain ⟨_, _, hat⟩ := World.cells?_some h1
   refine ⟨cs', y, hy, fun j u hu => ?_⟩
   have hj : j < R.size := by have := (List.getElem?_eq_some_iff.1 hu).1; rwa [R.len hy] at this
   have := hat j hj
   rw [add_of_add] at this
   exact this.trans hu
  have first : ∃ u, w.cell? a = some u := by
   obtain ⟨cs', y, hy, hat⟩ := key 0 (by omega)
   have hp := R.pos
   have hl : 0 < cs'.length := by rw [R.len hy]; exact hp
   have := hat 0 cs'[0] (List.getElem?_eq_getElem hl)
   exact ⟨cs'[0], by simpa [Addr.add] using this⟩
  obtain ⟨u0, hu0⟩ := first
  have hbl := lt_of_cell hu0
  obtain ⟨b, o, q⟩ := a
  have hq : q = none := by
   cases q with
   | none => rfl
   | some q =>
     simp only [World.cell?] at hu0
     split at hu0 <;> cases hu0
  subst hq
  have list : ∀ k, k ≤ len → ∃ l : List α, l.length = k ∧ ∀ i y, l[i]? = some y → ∃ cs', R.rep w (fun g => g < w.heap.size) cs' y ∧ ∀ j u, cs'[j]? = some u → w.cell? ⟨b, o + i * R.size + j, none⟩ = some u := by
   intro k
   induction k with
   | zero => intro _; exact ⟨[], rfl, by simp⟩
   | succ k ih =>
     intro hk
     obtain ⟨l, hn, hl'⟩ := ih (by omega)
     obtain ⟨cs', y, hy, hat⟩ := key k (by omega)
     refine ⟨l ++ [y], by simp [hn], fun i y' hi' => ?_⟩
     by_cases hik : i < k
     ·rw [List.getElem?_append_left (by omega)] at hi'
      exact hl' i y' hi'
     ·rw [List.getElem?_append_right (by omega), hn] at hi'
      have : i = k := by
       have := (List.getElem?_eq_some_iff.1 hi').1
       simp at this; omega
      subst this
      simp at hi'
      subst hi'
      refine ⟨cs', hy, fun j u hu => ?_⟩
      have := hat j u hu
      rwa [add_off, ← Nat.add_assoc] at this
  obtain ⟨l, hn, hl'⟩ := list len (Nat.le_refl _)
  subst hn
  exact ⟨l, _, cap, hcs, hl, hcap', fun _ => ⟨b, o, rfl, hbl, hbl, hl'⟩⟩⟩
theorem opens_int : Opens IntR 3 := ⟨by kernel_rfl, fun H enc w base sp held fuel cs x hx => by
 obtain ⟨n, rfl, _, h⟩ := DataW.trod_int Tryz.underlying3 hx
 exact ⟨n, rfl, by have := h; simp only [Lit.wf, Bool.and_eq_true, decide_eq_true_eq, show IntKind.i64.min = -9223372036854775808 from by decide, show IntKind.i64.max = 9223372036854775807 from by decide] at this; omega⟩⟩
theorem opens_string : Opens StrR 9 := ⟨by kernel_rfl, fun H enc w base sp held fuel cs x hx => by
 obtain ⟨s, rfl, _, h⟩ := DataW.trod_string Tryz.underlying9 hx
 exact ⟨s, rfl, by unfold maxLen at h; omega⟩⟩
theorem opens_bool : Opens BoolR 4 := ⟨by kernel_rfl, fun H enc w base sp held fuel cs x hx => by
 obtain ⟨b, rfl, _⟩ := DataW.trod_bool Tryz.underlying4 hx
 exact ⟨b, rfl⟩⟩
end
theorem opens_strings : Opens StrR.sl 27 := opens_string.sl Tryz.underlying27 (by kernel_rfl)
theorem opens_ints : Opens IntR.sl 38 := opens_int.sl Tryz.underlying38 (by kernel_rfl)
theorem opens_stamp : Opens StampR 37 := Opens.via (fun s => ⟨s.1, s.2.1, s.2.2⟩) (fun _ => rfl) (OpensF.struct Tryz.underlying37 (by kernel_rfl) (by kernel_rfl) (opens_int.more (opens_int.more opens_int.one)))
theorem opens_tx : Opens TxR 34 := Opens.via (fun s => ⟨s.1, s.2.1, s.2.2⟩) (fun _ => rfl) (OpensF.struct Tryz.underlying34 (by kernel_rfl) (by kernel_rfl) (opens_int.more (opens_int.more opens_int.one)))
theorem opens_range : Opens RangeR 40 := Opens.via (fun s => ⟨s.1, s.2.1, s.2.2.1, s.2.2.2⟩) (fun _ => rfl) (OpensF.struct Tryz.underlying40 (by kernel_rfl) (by kernel_rfl) (opens_int.more (opens_int.more (opens_int.more opens_int.one))))
theorem opens_put : Opens PutR 29 := Opens.via (fun s => ⟨s.1, s.2.1, s.2.2⟩) (fun _ => rfl) (OpensF.struct Tryz.underlying29 (by kernel_rfl) (by kernel_rfl) (opens_string.more (opens_int.more opens_strings.one)))
theorem opens_puts : Opens PutR.sl 30 := opens_put.sl Tryz.underlying30 (by kernel_rfl)
theorem opens_batch : Opens BatchR 32 := Opens.via (fun s => ⟨s.1, s.2⟩) (fun _ => rfl) (OpensF.struct Tryz.underlying32 (by kernel_rfl) (by kernel_rfl) (opens_string.more opens_puts.one))
theorem opens_event : Opens EventR 63 := Opens.via (fun s => ⟨s.1, s.2.1, s.2.2.1, s.2.2.2.1, s.2.2.2.2⟩) (fun _ => rfl) (OpensF.struct Tryz.underlying63 (by kernel_rfl) (by kernel_rfl) (opens_string.more (opens_int.more (opens_string.more (opens_stamp.more opens_int.one)))))
theorem opens_events : Opens EventR.sl 45 := opens_event.sl Tryz.underlying45 (by kernel_rfl)
theorem opens_known : Opens KnownR 70 := Opens.via (fun s => ⟨s.1, s.2.1, s.2.2⟩) (fun _ => rfl) (OpensF.struct Tryz.underlying70 (by kernel_rfl) (by kernel_rfl) (opens_string.more (opens_int.more opens_stamp.one)))
theorem opens_knowns : Opens KnownR.sl 59 := opens_known.sl Tryz.underlying59 (by kernel_rfl)
theorem opens_stream : Opens StreamR 61 := Opens.via (fun s => ⟨s.1, s.2.1, s.2.2⟩) (fun _ => rfl) (OpensF.struct Tryz.underlying61 (by kernel_rfl) (by kernel_rfl) (opens_string.more (opens_events.more opens_knowns.one)))
theorem opens_streams : Opens StreamR.sl 41 := opens_stream.sl Tryz.underlying41 (by kernel_rfl)
theorem opens_rec : Opens RecR 43 := Opens.via (fun s => ⟨s.1, s.2.1, s.2.2.1, s.2.2.2.1, s.2.2.2.2.1, s.2.2.2.2.2.1, s.2.2.2.2.2.2.1, s.2.2.2.2.2.2.2.1, s.2.2.2.2.2.2.2.2.1, s.2.2.2.2.2.2.2.2.2⟩) (fun _ => rfl)
 (OpensF.struct Tryz.underlying43 (by kernel_rfl) (by kernel_rfl) (opens_int.more (opens_int.more (opens_int.more (opens_bool.more (opens_stamp.more (opens_tx.more (opens_ints.more (opens_batch.more (opens_range.more opens_streams.one))))))))))
theorem opens_recs : Opens RecR.sl 48 := opens_rec.sl Tryz.underlying48 (by kernel_rfl)
theorem opens_ranges : Opens RangeR.sl 51 := opens_range.sl Tryz.underlying51 (by kernel_rfl)
end Go.Proofs.YtpgocpodhamibaaGreatDoor
