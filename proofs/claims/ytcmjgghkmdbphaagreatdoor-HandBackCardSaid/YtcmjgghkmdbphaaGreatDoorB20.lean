/- state.release. awake. every record keeps the invariant (plain law). What the invariant of a state gives for the walks. state: Log, Ranges and the rest that is told. Ranging over a map within a range over a function: the laws of Mf for fenced goals. -/
import Derived.Test.YtcmjgghkmdbphaaGreatDoorB19
import Derived.Test.YtcmjgghkmdbphaaGreatDoorB16
import Derived.Test.YtcmjgghkmdbphaaGreatDoorB17
import Derived.Test.YtcmjgghkmdbphaaGreatDoorB11
import Derived.Test.YtcmjgghkmdbphaaGreatDoorB02
import Derived.Test.YtcmjgghkmdbphaaGreatDoorB08
import Derived.Sort.MapsRangeIn
set_option maxRecDepth 20000
set_option maxHeartbeats 25600000
namespace Go.Proofs.YtcmjgghkmdbphaaGreatDoor
open Go.RowKit
def relB (r f : Rec) : Bool := decide (f.range.first = r.range.first) && decide (f.range.last = r.range.last)
theorem relHas_any (b : Nat) (r : Rec) (nA pA sA : Option Addr) (nc pc sc : Nat) (f : Rec) (nA' pA' sA' : Option Addr) (nc' pc' sc' : Nat) (w : World) (hb : Blk w b 46 (r.cells nA nc pA pc sA sc)) :
 Calls Tryz.prog 194 #[.agg (f.cells nA' nc' pA' pc' sA' sc').toArray, .pointer (some ⟨b, 0, none⟩)] w fun e w' => e = .returned (.bool (relB r f)) ∧ Below w.heap.size w w' := by
 have hb1 := (jb w.heap.size w).al (.cells (f.cells nA' nc' pA' pc' sA' sc').toArray 46)
 have B0 := Blk.new w 46 (f.cells nA' nc' pA' pc' sA' sc')
 have BR := hb.ext hb1
 clear hb
 go_enter Tryz.func194, Tryz.ntmps194
 go_upto_region 1 with fail
 refine forget (M := fun W => Code.wp _ _ _ _ W) (fun W => Below w.heap.size w W ∧ Blk W w.heap.size 46 (f.cells nA' nc' pA' pc' sA' sc') ∧ Blk W b 46 (r.cells nA nc pA pc sA sc)) ⟨hb1, B0, BR⟩ ?_
 clear B0 hb1 BR
 rintro w1 ⟨hb1, B0, BR⟩
 have x13 : w1.cell? ⟨w.heap.size, 13, none⟩ = some (.int .i64 f.range.first) := B0.cell 13
 have x14 : w1.cell? ⟨w.heap.size, 14, none⟩ = some (.int .i64 f.range.last) := B0.cell 14
 have y13 : w1.cell? ⟨b, 13, none⟩ = some (.int .i64 r.range.first) := BR.cell 13
 have y14 : w1.cell? ⟨b, 14, none⟩ = some (.int .i64 r.range.last) := BR.cell 14
 have HB := jh hb1
 clear B0 hb1 BR
 have hcase : f.range.first ≠ r.range.first ∨ (f.range.first = r.range.first ∧ f.range.last ≠ r.range.last) ∨ (f.range.first = r.range.first ∧ f.range.last = r.range.last) := by omega
 rcases hcase with h1 | ⟨h1, h2⟩ | ⟨h1, h2⟩
 ·have HE := jh (show relB r f = false from by simp [relB, h1])
  have g1 : (f.range.first == r.range.first) = false := jn h1
  clear h1
  go_wp2_with fail
  go_ret
  exact ⟨ret_bool HE.out.symm, HB.out⟩
 ·have HE := jh (show relB r f = false from by simp [relB, h2])
  have g1 : (f.range.first == r.range.first) = true := beq_iff_eq.2 h1
  have g2 : (f.range.last == r.range.last) = false := jn h2
  clear h1 h2
  go_wp2_with fail
  go_ret
  exact ⟨ret_bool HE.out.symm, HB.out⟩
 ·have HE := jh (show relB r f = true from by simp [relB, h1, h2])
  have g1 : (f.range.first == r.range.first) = true := beq_iff_eq.2 h1
  have g2 : (f.range.last == r.range.last) = true := beq_iff_eq.2 h2
  clear h1 h2
  go_wp2_with fail
  go_ret
  exact ⟨ret_bool HE.out.symm, HB.out⟩
theorem enters_release : ∀ args w, (callFunc 194 args).run Tryz.prog w = .ok (.enter 194 args) w := enters_of Tryz.func194 (by kernel_rfl) rfl
theorem release_any (g : Nat) (s : St) (r : Rec) (nA pA sA : Option Addr) (nc pc sc : Nat) (P Q : Nat → Prop) (w : World) (h : StAt w P g s) (hg : ¬ P g) (hS : Fit s)
 (hr : RecAt w Q r nA nc pA pc sA sc) (hrl : s.ring.length ≤ 300) (hfl : (freshT s.table).length ≤ 40000) (hT : Tabs w) (h2 : 2 ≤ g) :
 Calls Tryz.prog 97 #[ptrV g, .agg (r.cells nA nc pA pc sA sc).toArray] w (StOut w P g (releaseS s r)) := by
 have hgl := h.lt
 have HH := jh (ja h (ja hg (ja hS (ja hr hT))))
 clear h hg hS hr hT
 have hb1 := (jb w.heap.size w).al (.cells (r.cells nA nc pA pc sA sc).toArray 46)
 have B0 := Blk.new w 46 (r.cells nA nc pA pc sA sc)
 have hs1 : (w.alloc (.cells (r.cells nA nc pA pc sA sc).toArray 46)).heap.size = w.heap.size + 1 := by simp
 unfold ptrV
 go_enter Tryz.func97, Tryz.ntmps97
 go_upto_region 1 with fail
 refine forget (M := fun W => Code.wp _ _ _ _ W) (fun W => Below w.heap.size w W ∧ Blk W w.heap.size 46 (r.cells nA nc pA pc sA sc) ∧ W.heap.size = w.heap.size + 1) ⟨hb1, B0, hs1⟩ ?_
 clear B0 hb1 hs1
 rintro w1 ⟨hb1, B0, hs1⟩
 obtain ⟨v, hB, hI⟩ := HH.out.1
 obtain ⟨Af, cf, hvf, hcf1, hcf2, hrowf⟩ := hI.frozen
 have hvl : v.frozen = .slice Af s.frozen.length cf := by injection hvf
 have y9 : w1.cell? ⟨g, 9, none⟩ = some v.frozen := (hB.ext hb1).cell 9
 rw [hvl] at y9
 have HSP := jh (show releaseS s r = (if idxI (relB r) s.frozen < 0 then (s, 4) else if r.range.owner = s.self ∨ r.range.owner < 1 ∨ s.nodes < r.range.owner ∨ r.range.epoch ≤ ((s.frozen.map Rec.range).getD (idxI (relB r) s.frozen).toNat zeroRange).epoch then (s, 1) else if (setR s.ring r.range).2 ≠ 0 then (s, (setR s.ring r.range).2) else ({ s with ring := (setR s.ring r.range).1, frozen := s.frozen.eraseIdx (idxI (relB r) s.frozen).toNat, table := dropT (freshT s.table) r.range }, 0)) from rfl)
 have C1 := idxF_Rec 194 [.pointer (some ⟨w.heap.size, 0, none⟩)] (relB r) enters_release Af cf s.frozen P w1 (hrowf.ext hb1) (by have := HH.out.2.2.1.frozen; omega) (fun a cs W' _ ha hb' => by
  obtain ⟨nA', nc', pA', pc', sA', sc', rfl, _⟩ := rec_rep.1 ha
  exact relHas_any w.heap.size r nA pA sA nc pc sc a nA' pA' sA' nc' pc' sc' W' (B0.ext hb'))
 have hbd := idxI_bd (relB r) s.frozen
 generalize idxI (relB r) s.frozen = i at *
 have HV := jh (ja hB (ja hI (ja hvl (ja hrowf hcf2))))
 have H1 := jh (ja hb1 (ja B0 hs1))
 clear hB hI hvf hcf1 hcf2 hrowf hvl hb1 B0 hs1
 go_wp2_with fail
 refine C1.mono ?_
 clear C1 y9
 rintro e w2 ⟨rfl, hb2⟩
 have HB2 := jh (ja (H1.out.1.tr hb2) (H1.out.2.1.ext hb2))
 clear hb2
 by_cases hi : i < 0
 ·have HE := jh (HSP.out.trans (if_pos hi))
  go_wp2_with fail
  go_ret
  unfold StOut
  rw [HE.out]
  obtain ⟨v', a1, a2⟩ := HH.out.1
  exact ⟨rfl, ⟨v', a1.ext HB2.out.1, (a2.same (js HB2.out.1)).mono fun k hk => .inl hk⟩, jo HB2.out.1⟩
 have HE := jh (HSP.out.trans (if_neg hi))
 obtain ⟨k, rfl⟩ : ∃ k : Nat, i = k := ⟨i.toNat, by omega⟩
 have hkl : k < s.frozen.length := by omega
 have hlk := jg hkl
 obtain ⟨bb, o, mA, mc, qA, qc, tA, tc, hAf, hbw, hrec, hcs⟩ := recs_at (HV.out.2.2.2.1.ext HB2.out.1) hlk
 have hgd : (s.frozen.map Rec.range).getD ((k : Int)).toNat zeroRange = s.frozen[k].range := by simp [hkl]
 rw [hgd, Int.toNat_natCast] at HE
 generalize s.frozen[k] = f at *
 have hi' : decide ((k : Int) < 0) = false := jd hi
 have hkl' : (k : Int) < s.frozen.length := by omega
 have hk0 : 0 ≤ ((k : Nat) : Int) := Int.natCast_nonneg _
 have x16 : w2.cell? ⟨bb, o + k * 18 + 16, none⟩ = some (.int .i64 f.range.epoch) := hcs 16 _ rfl
 have z15 : w2.cell? ⟨w.heap.size, 15, none⟩ = some (.int .i64 r.range.owner) := HB2.out.2.cell 15
 have z16 : w2.cell? ⟨w.heap.size, 16, none⟩ = some (.int .i64 r.range.epoch) := HB2.out.2.cell 16
 have y0 : w2.cell? ⟨g, 0, none⟩ = some (.int .i64 s.self) := (HV.out.1.ext HB2.out.1).cell 0
 have y1 : w2.cell? ⟨g, 1, none⟩ = some (.int .i64 s.nodes) := (HV.out.1.ext HB2.out.1).cell 1
 have y9 : w2.cell? ⟨g, 9, none⟩ = some v.frozen := (HV.out.1.ext HB2.out.1).cell 9
 rw [HV.out.2.2.1, hAf] at y9
 have HAF := jh hAf
 clear hgd hlk hrec hcs hi hAf hbd
 go_upto_region 4 with fail
 have hcase : r.range.owner = s.self ∨ (r.range.owner ≠ s.self ∧ r.range.owner < 1) ∨ (r.range.owner ≠ s.self ∧ ¬ r.range.owner < 1 ∧ s.nodes < r.range.owner) ∨ (r.range.owner ≠ s.self ∧ ¬ r.range.owner < 1 ∧ ¬ s.nodes < r.range.owner ∧ r.range.epoch ≤ f.range.epoch) ∨ (r.range.owner ≠ s.self ∧ ¬ r.range.owner < 1 ∧ ¬ s.nodes < r.range.owner ∧ ¬ r.range.epoch ≤ f.range.epoch) := by omega
 rcases hcase with h1 | ⟨h1, h3⟩ | ⟨h1, h3, h4⟩ | ⟨h1, h3, h4, h5⟩ | ⟨h1, h3, h4, h5⟩
 ·have HE2 := jh (HE.out.trans (if_pos (.inl h1)))
  have g1 : (r.range.owner == s.self) = true := beq_iff_eq.2 h1
  go_quiet (fail)
  go_wp2_with fail
  go_ret
  unfold StOut
  rw [HE2.out]
  obtain ⟨v', a1, a2⟩ := HH.out.1
  exact ⟨rfl, ⟨v', a1.ext (HB2.out.1.drewN _), (a2.same (js (HB2.out.1.drewN _))).mono fun k hk => .inl hk⟩, jo (HB2.out.1.drewN _)⟩
 ·have HE2 := jh (HE.out.trans (if_pos (.inr (.inl h3))))
  have g1 : (r.range.owner == s.self) = false := jn h1
  go_quiet (fail)
  go_wp2_with fail
  go_ret
  unfold StOut
  rw [HE2.out]
  obtain ⟨v', a1, a2⟩ := HH.out.1
  exact ⟨rfl, ⟨v', a1.ext (HB2.out.1.drewN _), (a2.same (js (HB2.out.1.drewN _))).mono fun k hk => .inl hk⟩, jo (HB2.out.1.drewN _)⟩
 ·have HE2 := jh (HE.out.trans (if_pos (.inr (.inr (.inl h4)))))
  have g1 : (r.range.owner == s.self) = false := jn h1
  have g3 := jd h3
  go_quiet (fail)
  go_wp2_with fail
  go_ret
  unfold StOut
  rw [HE2.out]
  obtain ⟨v', a1, a2⟩ := HH.out.1
  exact ⟨rfl, ⟨v', a1.ext (HB2.out.1.drewN _), (a2.same (js (HB2.out.1.drewN _))).mono fun k hk => .inl hk⟩, jo (HB2.out.1.drewN _)⟩
 ·have HE2 := jh (HE.out.trans (if_pos (.inr (.inr (.inr h5)))))
  have g1 : (r.range.owner == s.self) = false := jn h1
  have g3 := jd h3
  have g4 : decide (s.nodes < r.range.owner) = false := jd h4
  go_quiet (fail)
  go_wp2_with fail
  go_ret
  unfold StOut
  rw [HE2.out]
  obtain ⟨v', a1, a2⟩ := HH.out.1
  exact ⟨rfl, ⟨v', a1.ext (HB2.out.1.drewN _), (a2.same (js (HB2.out.1.drewN _))).mono fun k hk => .inl hk⟩, jo (HB2.out.1.drewN _)⟩
 have HE2 := jh (HE.out.trans (if_neg (by omega)))
 have g1 : (r.range.owner == s.self) = false := jn h1
 have g3 := jd h3
 have g4 : decide (s.nodes < r.range.owner) = false := jd h4
 have g5 := jd h5
 clear h1 h3 h4 h5
 go_quiet (fail)
 clear x16 z15 z16 y0 y1 y9 g1 g3 g4 g5
 have hb3 : Below w2.heap.size w2 (w2.drewN nq) := (jb _ _).drewN _
 generalize hw3 : w2.drewN nq = w3 at *
 have HB3 := jh (ja (HB2.out.1.tr hb3) (HB2.out.2.ext hb3))
 clear hw3 hb3
 obtain ⟨Ar, cr, hvr, hc1, hc2, hrow⟩ := HV.out.2.1.ring
 have hvrl : v.ring = .slice Ar s.ring.length cr := by injection hvr
 go_upto_region 6 with fail
 have y4 : w3.cell? ⟨g, 4, none⟩ = some v.ring := (HV.out.1.ext HB3.out.1).cell 4
 rw [hvrl] at y4
 have y4 := On.cell y4
 have z13 := On.cell (HB3.out.2.cell 13 : w3.cell? ⟨w.heap.size, 13, none⟩ = some (.int .i64 r.range.first))
 have z14 := On.cell (HB3.out.2.cell 14 : w3.cell? ⟨w.heap.size, 14, none⟩ = some (.int .i64 r.range.last))
 have z15 := On.cell (HB3.out.2.cell 15 : w3.cell? ⟨w.heap.size, 15, none⟩ = some (.int .i64 r.range.owner))
 have z16 := On.cell (HB3.out.2.cell 16 : w3.cell? ⟨w.heap.size, 16, none⟩ = some (.int .i64 r.range.epoch))
 have hlo := jb w3.heap.size w3
 have CS := setRing_any Ar cr s.ring r.range P w3.drew (hrow.ext HB3.out.1.drew) (by omega) HH.out.2.2.2.1.range
 unfold GotSplit at CS
 generalize setR s.ring r.range = sp at CS HE2
 obtain ⟨ring', code⟩ := sp
 dsimp only at CS HE2
 have HE2 := jh HE2.out
 clear hvr hvrl hc1 hc2 hrow
 refine wp_region_mix (.seg [0, 1, 2, 3, 4, 5] 6 (.leaf [7, 8, 9, 10, 11])) (fun w' => ∃ d : Wd (On w3), w' = d.w) (by kernel_rfl) (by kernel_rfl) (fun _ _ d _ _ h => by cases d <;> exact h) (ClsW.mk hlo.drew) ?_
 unfold wpMix; simp only [pick, j1, j2, j3, j4]
 (repeat (show wpQuiet _ _ _ _ (_ :: _) _; go_big_quiet_step (fail))); refine qn ?_
 go_wp2_with fail
 refine CS.mono ?_
 clear CS
 rintro e w4 ⟨⟨v4, rfl, ho4⟩, hb4'⟩
 have hb4 : Below w3.heap.size w3 w4 := hlo.drew.tr hb4'
 obtain ⟨A4, c4, hv4, hc41, hc42⟩ := ho4.form
 subst hv4
 have HO4 := jh (ja ho4 (ja hc41 hc42))
 have HB4 := jh (ja (HB3.out.1.tr hb4) (HB3.out.2.ext hb4))
 clear ho4 hb4' hc41 hc42
 go_wp2_with fail
 (refine segw (D := On w3) (hb4) ?_; unfold wpMix; simp only [pick, j1, j2, j3, j4]; (repeat (show wpQuiet _ _ _ _ (_ :: _) _; go_big_quiet_step (fail))); refine qn ?_)
 clear y4 z13 z14 z15 z16 hlo hb4
 by_cases hcode : code = 0
 rotate_left
 ·have HE3 := jh (HE2.out.trans (if_pos hcode))
  have hc1 : (code != 0) = true := bne_iff_ne.2 hcode
  clear hcode
  go_wp2_with fail
  go_ret
  unfold StOut
  rw [HE3.out]
  obtain ⟨v', a1, a2⟩ := HH.out.1
  exact ⟨rfl, ⟨v', a1.ext HB4.out.1, (a2.same (js HB4.out.1)).mono fun k hk => .inl hk⟩, jo HB4.out.1⟩
 have HE3 := jh (HE2.out.trans (if_neg (by simp [hcode])))
 subst hcode
 have y9 : w4.cell? ⟨g, 9, none⟩ = some v.frozen := (HV.out.1.ext HB4.out.1).cell 9
 rw [HV.out.2.2.1] at y9
 have CC := clone_Rec Af cf s.frozen P w4 (HV.out.2.2.2.1.ext HB4.out.1) (by have := HH.out.2.2.1.frozen; omega)
 unfold GotOwn at CC
 go_wp2_with fail
 refine CC.mono ?_
 clear CC y9
 rintro e w5 ⟨⟨v5, rfl, ho5⟩, hb5⟩
 have CD := delete_any v5 s.frozen k w4.heap.size _ w5 ho5 hkl HH.out.2.2.1.frozen
 have hz4 := HB4.out.1.size
 have HB5 := jh hb5
 have HO5 := jh (ja ho5 (ja (HB4.out.1.tr hb5) (HB4.out.2.ext hb5)))
 clear ho5 hb5
 go_wp2_with fail
 have hwr : wrap64 ((k : Int) + 1) = (k : Int) + 1 := wrap_in _ (by have := HH.out.2.2.1.frozen; omega)
 rw [hwr]
 refine CD.mono ?_
 clear CD hwr
 rintro e w6 ⟨v6, rfl, ho6, hO6⟩
 have hOn : ∀ q, v5.ownBlock = some q → w4.heap.size ≤ q := fun q hq => (HO5.out.1.lt q hq).1
 have hg6 : ¬ v5.ownBlock = some g := fun e => by have := hOn g e; omega
 have hBg6 := (HV.out.1.ext HO5.out.2.1).only hO6 hg6
 have hBx6 := HO5.out.2.2.only hO6 (fun e => by have := hOn _ e; have := HB4.out.2.lt; omega)
 have h46 : Below w.heap.size w w6 := HO5.out.2.1.trans (hO6.low (fun q e => by have := hOn q e; omega) HO5.out.2.1.size)
 have y4 : w6.cell? ⟨g, 4, none⟩ = some v.ring := hBg6.cell 4
 have f4 := hBg6.frozen 4
 have y9 : w6.cell? ⟨g, 9, none⟩ = some v.frozen := hBg6.cell 9
 have f9 := hBg6.frozen 9
 obtain ⟨A6, c6, hv6, hc61, hc62⟩ := ho6.form
 subst hv6
 have hrow4 := (((HO4.out.1.row' range_plain (P := fun k => w.heap.size ≤ k ∧ k < w4.heap.size) fun q hq => by
  have h1 := HO4.out.1.lt q hq
  have h2 := HB3.out.1.size
  have h3 : w3.drew.heap.size = w3.heap.size := rfl
  omega).same (js HB5.out) HB5.out.size).same (w' := w6) (Same.of_only hO6 fun k hk e => by have := hOn k e; have := hk.2; omega) hO6.size)
 have hrow6 := ho6.row (fun q hq => .inl hq)
 have H6 := jh (ja hBg6 (ja hBx6 (ja h46 (ja hc61 (ja hc62 (ja hrow4 hrow6))))))
 have hz6 := h46.size
 have hlf : ((s.frozen.eraseIdx k).length : Nat) = (s.frozen.eraseIdx k).length := rfl
 generalize hfz : s.frozen.eraseIdx k = frozen' at *
 clear hlf ho6 hBg6 hBx6 h46 hc61 hc62 hO6 hrow4 hrow6 hOn hg6
 go_upto_region 10 with fail
 have hI6 := HV.out.2.1.same (js H6.out.2.2.1)
 have hO7 : Only (· = g) w6 (w6.setCell ⟨g, 4, none⟩ (.slice A4 ring'.length c4)) := Only.set_ (F := (· = g)) rfl _
 have hO8 : Only (· = g) w6 ((w6.setCell ⟨g, 4, none⟩ (.slice A4 ring'.length c4)).setCell ⟨g, 9, none⟩ (.slice A6 frozen'.length c6)) := hO7.tr (Only.set_ (F := (· = g)) rfl _)
 have hI8 := (hI6.same (Same.of_only hO8 fun k hk e => HH.out.2.1 (e ▸ hk))).mono (Q := fun k => P k ∨ w.heap.size ≤ k) fun k hk => .inl hk
 have hst8 : StAt ((w6.setCell ⟨g, 4, none⟩ (.slice A4 ring'.length c4)).setCell ⟨g, 9, none⟩ (.slice A6 frozen'.length c6)) (fun k => P k ∨ w.heap.size ≤ k) g { s with ring := ring', frozen := frozen' } := by
  refine ⟨{ v with ring := .slice A4 ring'.length c4, frozen := .slice A6 frozen'.length c6 }, (H6.out.1.set_ 4 _).set_ 9 _, { hI8 with ring := ⟨A4, c4, rfl, HO4.out.2.1, HO4.out.2.2, ?_⟩, frozen := ⟨A6, c6, rfl, H6.out.2.2.2.1, H6.out.2.2.2.2.1, ?_⟩ }⟩
  ·exact (H6.out.2.2.2.2.2.1.same (Same.of_only hO8 fun k hk e => by have e' : k = g := e; have := hk.1; omega) hO8.size).mono fun k hk _ => .inr hk.1
  ·refine (H6.out.2.2.2.2.2.2.same (Same.of_only hO8 fun k hk e => ?_) hO8.size).mono fun k hk _ => ?_
   ·have e' : k = g := e
    rcases hk with h | h
    ·omega
    ·exact HH.out.2.1 (e' ▸ h)
   ·rcases hk with h | h
    ·exact .inr (by omega)
    ·exact .inl h
 have hBx8 := H6.out.2.1.only hO8 (fun e => by have e' : w.heap.size = g := e; omega)
 have hT8 := (HH.out.2.2.2.2.below H6.out.2.2.1).only hO8 (by intro e; have e' : 0 = g := e; omega) (by intro e; have e' : 1 = g := e; omega)
 have hz8 := hO8.size
 have hOw8 : Only (· = g) w _ := (jo H6.out.2.2.1).tr hO8
 generalize hw8 : ((w6.setCell ⟨g, 4, none⟩ (.slice A4 ring'.length c4)).setCell ⟨g, 9, none⟩ (.slice A6 frozen'.length c6)) = w8 at *
 have hst8 : StAt w8 (fun k => (P k ∨ w.heap.size ≤ k) ∧ k < w8.heap.size) g { s with ring := ring', frozen := frozen' } := by obtain ⟨v', a1, a2⟩ := hst8; exact ⟨v', a1, a2.low⟩
 have CF := fresh_any g { s with ring := ring', frozen := frozen' } (fun k => (P k ∨ w.heap.size ≤ k) ∧ k < w8.heap.size) w8 hst8 (fun h => by rcases h.1 with h | h; exact HH.out.2.1 h; omega) HH.out.2.2.1.fair.len HH.out.2.2.1.fair.each HH.out.2.2.1.fair.put hT8 (by omega)
 unfold FreshOut ptrV at CF
 have H8 := jh (ja hst8 (ja hBx8 (ja hT8 hOw8)))
 have hzz : w.heap.size < w8.heap.size := hBx8.lt
 clear hw8 hI6 hI8 hO7 hO8 hst8 hBx8 hT8 hOw8 y4 f4 y9 f9
 go_wp2_with fail
 refine CF.mono ?_
 clear CF
 rintro e w9 ⟨rfl, ⟨v9, hB9, hT9, hR9⟩, hO9, _⟩
 have hz9 := hO9.size
 have hBx9 := H8.out.2.1.only hO9 (fun e => by have e' : w.heap.size = g := e; omega)
 have H9 := jh (ja hT9 (ja hR9 (H8.out.2.2.2.tr hO9)))
 have hD : InD g w.heap.size { s with ring := ring', frozen := frozen', table := freshT s.table } v9 r nA nc pA pc sA sc w9 := ⟨hB9, hBx9⟩
 clear hB9 hT9 hR9 hO9 hBx9
 haveI : Nonempty (Wd (InD g w.heap.size { s with ring := ring', frozen := frozen', table := freshT s.table } v9 r nA nc pA pc sA sc)) := ⟨⟨_, hD⟩⟩
 have y5 := InD.c5 (g := g) (nb := w.heap.size) (s := { s with ring := ring', frozen := frozen', table := freshT s.table }) (v := v9) (r := r) (nA := nA) (nc := nc) (pA := pA) (pc := pc) (sA := sA) (sc := sc)
 have z13 := InD.r13 (g := g) (nb := w.heap.size) (s := { s with ring := ring', frozen := frozen', table := freshT s.table }) (v := v9) (r := r) (nA := nA) (nc := nc) (pA := pA) (pc := pc) (sA := sA) (sc := sc)
 have z14 := InD.r14 (g := g) (nb := w.heap.size) (s := { s with ring := ring', frozen := frozen', table := freshT s.table }) (v := v9) (r := r) (nA := nA) (nc := nc) (pA := pA) (pc := pc) (sA := sA) (sc := sc)
 have z15 := InD.r15 (g := g) (nb := w.heap.size) (s := { s with ring := ring', frozen := frozen', table := freshT s.table }) (v := v9) (r := r) (nA := nA) (nc := nc) (pA := pA) (pc := pc) (sA := sA) (sc := sc)
 have z16 := InD.r16 (g := g) (nb := w.heap.size) (s := { s with ring := ring', frozen := frozen', table := freshT s.table }) (v := v9) (r := r) (nA := nA) (nc := nc) (pA := pA) (pc := pc) (sA := sA) (sc := sc)
 go_upto_region 11 with fail
 refine wp_region_mix (.seg [0, 1, 2, 3, 4, 5] 6 (.leaf [])) (fun w' => ∃ d : Wd (InD g w.heap.size { s with ring := ring', frozen := frozen', table := freshT s.table } v9 r nA nc pA pc sA sc), w' = d.w) (by kernel_rfl) (by kernel_rfl) (fun _ _ d _ _ h => by cases d <;> exact h) (ClsW.mk (D := InD g w.heap.size { s with ring := ring', frozen := frozen', table := freshT s.table } v9 r nA nc pA pc sA sc) hD.drew) ?_
 unfold wpMix; simp only [pick, j1, j2, j3, j4]
 (repeat (show wpQuiet _ _ _ _ (_ :: _) _; go_big_quiet_step (fail))); refine qn ?_
 have CD := drop_any v9.tb (freshT s.table) r.range (fun k => w8.heap.size ≤ k ∧ k < w9.heap.size) w9.drew (H9.out.1.ext (jb _ _).drew) hfl
 unfold ptrV at CD
 go_wp2_with fail
 refine CD.mono ?_
 clear CD
 rintro e w10 ⟨⟨n10, rfl⟩, hT10, hO10⟩
 have hz10 := hO10.size
 have hzd : w9.drew.heap.size = w9.heap.size := rfl
 have hD10 := hD.drew.only hO10 (fun h => by have := h.1; omega) (fun h => by have := h.1; omega)
 have hO9d : Only (fun k => w8.heap.size ≤ k ∧ k < w9.heap.size) w9 w10 := (jo (jb _ w9).drew).trans hO10 fun q hq h => h.1
 have H10 := jh (ja hT10 (ja hO9d hD10.st))
 clear hT10 hO10 hO9d
 go_wp2_with fail
 dsimp only [wpList, SegQ]
 refine ⟨fun w' => ∃ d : Wd (InD g w.heap.size { s with ring := ring', frozen := frozen', table := freshT s.table } v9 r nA nc pA pc sA sc), w' = d.w, ClsW.mk (D := InD g w.heap.size { s with ring := ring', frozen := frozen', table := freshT s.table } v9 r nA nc pA pc sA sc) hD10, fun _ h => h, ?_⟩
 unfold wpMix; simp only [pick, List.filterMap_nil]
 (repeat (show wpQuiet _ _ _ _ (_ :: _) _; go_big_quiet_step (fail))); refine qn ?_
 clear y5 z13 z14 z15 z16 hD hD10
 go_wp2_with fail
 go_ret
 unfold StOut
 rw [HE3.out]
 refine ⟨rfl, ⟨v9, H10.out.2.2, StRest.full (s := { s with ring := ring', frozen := frozen', table := dropT (freshT s.table) r.range }) ?_ (H10.out.1.mono fun k hk => ?_)⟩, ?_⟩
 ·have h1 := (H9.out.2.1.same (Same.of_only H10.out.2.1 fun k hk e => by have := e.1; have := hk.2; omega)).mono (Q := fun k => P k ∨ w.heap.size ≤ k) fun k hk _ => hk.1
  exact ⟨h1.fit, h1.ring, h1.held, h1.outcomes, h1.decided, h1.frozen, h1.log⟩
 ·exact .inr (by have := hk.1; omega)
 ·exact H9.out.2.2.trans H10.out.2.1 fun q hq h => by have := h.1; omega
end Go.Proofs.YtcmjgghkmdbphaaGreatDoor
namespace Go.Proofs.YtcmjgghkmdbphaaGreatDoor
open Go.RowKit
theorem i64_small (n : Int) (h : -1000 ≤ n ∧ n ≤ 1000) : i64 n := ⟨by omega, by omega⟩
end Go.Proofs.YtcmjgghkmdbphaaGreatDoor
namespace Go.Proofs.YtcmjgghkmdbphaaGreatDoor
open Go.RowKit
theorem evT_nil (n : Str) : evT [] n = [] := rfl
theorem inv_new {self nodes : Int} {s : St} (h : newS self nodes = some s) : Inv s 0 := by
 unfold newS at h
 split at h
 ·cases h
 ·rename_i hc
  injection h with h
  subst h
  have hr : soundR (newR nodes).1 = true := by
   have : nodes = 1 ∨ nodes = 2 ∨ nodes = 3 ∨ nodes = 4 ∨ nodes = 5 := by omega
   rcases this with rfl | rfl | rfl | rfl | rfl <;> rfl
  refine ⟨?_, hr, Tab.Ok.nil_, by simp [heldD], fun n => by simp [heldD, evT_nil], fun n => by simp [heldD, kyT, getA], by simp [heldD], by simp, by simp, by simp, by simp, by simp⟩
  simp only []; omega
theorem HeldOk.of {s s' : St} {h : Held} (k : HeldOk s h) (h1 : ∀ p ∈ h.batch.puts, versionT s'.table p.stream = versionT s.table p.stream) (h2 : ∀ p ∈ h.batch.puts, servesS s' p.stream = true) (h3 : ∀ p ∈ h.batch.puts, ∀ f ∈ s'.frozen, f.range.has (hashS p.stream) = false) : HeldOk s' h :=
 ⟨k.check, by rw [k.firsts]; exact List.map_congr_left fun p hp => by rw [h1 p hp], h2, h3⟩
theorem Inv.same {s s' : St} {N : Nat} (h : Inv s N) (h1 : s'.self = s.self) (h2 : s'.nodes = s.nodes) (h3 : s'.ring = s.ring) (h4 : s'.table = s.table) (h5 : s'.held = s.held) (h6 : s'.frozen = s.frozen) (h7 : s'.log = s.log) : Inv s' N := by
 refine ⟨by rw [h1, h2]; exact h.self, by rw [h3]; exact h.ring, by rw [h4]; exact h.tab, by rw [h4, h5]; exact h.size, by rw [h4, h5]; exact h.evs, by rw [h4, h5]; exact h.kys, by rw [h7, h5]; exact h.log, ?_, by rw [h5]; exact h.apart, by rw [h5]; exact h.nd, by rw [h6, h3, h1]; exact h.frozen, by rw [h6]; exact h.fnd⟩
 intro p hp
 rw [h5] at hp
 have := h.held p hp
 exact this.of (fun q _ => by rw [h4]) (fun q hq => by have := this.serves q hq; unfold servesS at this ⊢; rw [h3, h1]; exact this) (by rw [h6]; exact this.warm)
theorem filter_len_le {α : Type} (p : α → Bool) (l : List α) : (l.filter p).length ≤ l.length := List.length_filter_le _ _
theorem Inv.put {s s' : St} {N : Nat} {b : Batch} {st : Stamp} (h : Inv s N) (hc : checkB b = 0) (hp : PutS s b st s') (hf : ∀ p ∈ s.held, ∀ a ∈ p.2.batch.puts, ∀ q ∈ b.puts, a.stream ≠ q.stream) : Inv s' (N + sumD b.puts) := by
 have hle := puts_le_sum (checkB_good hc).putOk
 have hm : (makeB b (firstsT s.table b.puts) st 0).length = sumD b.puts := makeF_sum _ _ _ _ _
 have hr := hp.rest
 have e5 : s'.held = s.held := by rw [hr]
 have e6 : s'.frozen = s.frozen := by rw [hr]
 have e3 : s'.ring = s.ring := by rw [hr]
 have e1 : s'.self = s.self := by rw [hr]
 refine ⟨by rw [hr]; exact h.self, by rw [hr]; exact h.ring, hp.ok, ?_, fun n => ?_, fun n => ?_, ?_, ?_, by rw [e5]; exact h.apart, by rw [e5]; exact h.nd, by rw [e6, e3, e1]; exact h.frozen, by rw [e6]; exact h.fnd⟩
 ·rw [e5]; have := hp.size; have := h.size; omega
 ·rw [e5, hp.evs, List.length_append]
  have h1 := filter_len_le (fun e => decide (e.stream = n)) (makeB b (firstsT s.table b.puts) st 0)
  have h2 := h.evs n
  omega
 ·rw [e5]; have := hp.kys n; have := h.kys n; omega
 ·rw [e5, hp.log, List.length_append]; have := h.log; omega
 ·intro p hpp
  rw [e5] at hpp
  have := h.held p hpp
  refine this.of (fun q hq => ?_) (fun q hq => by have := this.serves q hq; unfold servesS at this ⊢; rw [e3, e1]; exact this) (by rw [e6]; exact this.warm)
  rw [version_ev, version_ev, hp.evs, List.filter_eq_nil_iff.2, List.append_nil]
  intro e he
  obtain ⟨⟨q', hq', e1⟩, _⟩ := makeF_stream _ _ _ _ _ he
  simp only [decide_eq_true_eq]
  intro e2
  exact hf p hpp q hq q' hq' (e2.symm.trans e1.symm)
theorem busy_free {s : St} {b : Batch} (h : ∀ p ∈ b.puts, busyS s p.stream = false) : (∀ p ∈ s.held, ∀ a ∈ p.2.batch.puts, ∀ q ∈ b.puts, a.stream ≠ q.stream) ∧ ∀ q ∈ b.puts, ∀ f ∈ s.frozen, f.range.has (hashS q.stream) = false := by
 refine ⟨fun p hp a ha q hq e => ?_, fun q hq f hf => ?_⟩ <;>
 ·have := h q hq
  unfold busyS at this
  simp only [Bool.or_eq_false_iff, List.any_eq_false] at this
  first
   | exact this.2 p hp (by rw [List.any_eq_true]; exact ⟨a, ha, by simpa using e⟩)
   | simpa using this.1 f hf
theorem heldD_put {l : List (Tx × Held)} {tx : Tx} {h : Held} (hn : getA tx l = none) : heldD (putA tx h l) = heldD l + sumD h.batch.puts := by
 induction l with
 | nil => simp [putA, heldD]
 | cons p l ih =>
   obtain ⟨x, v⟩ := p
   unfold getA at hn
   split at hn
   ·cases hn
   ·rename_i hne
    unfold putA
    rw [if_neg hne]
    have := ih hn
    simp only [heldD, List.map_cons, List.sum_cons] at *
    omega
theorem heldD_del {l : List (Tx × Held)} {tx : Tx} {h : Held} (hn : getA tx l = some h) : heldD (delA tx l) + sumD h.batch.puts = heldD l := by
 induction l with
 | nil => cases hn
 | cons p l ih =>
   obtain ⟨x, v⟩ := p
   unfold getA at hn
   unfold delA
   split at hn
   ·rename_i hx
    injection hn with hn; subst hn
    rw [if_pos hx]
    simp only [heldD, List.map_cons, List.sum_cons]; omega
   ·rename_i hne
    rw [if_neg hne]
    have := ih hn
    simp only [heldD, List.map_cons, List.sum_cons] at *
    omega
theorem putA_new {κ β : Type} [DecidableEq κ] {k : κ} {v : β} {l : List (κ × β)} (h : getA k l = none) : putA k v l = l ++ [(k, v)] := by
 induction l with
 | nil => rfl
 | cons p l ih =>
   obtain ⟨x, u⟩ := p
   unfold getA at h
   split at h
   ·cases h
   ·rename_i hne
    unfold putA
    rw [if_neg hne, ih h]; rfl
theorem commit_inv {s : St} {N : Nat} {r : Rec} (h : Inv s N) (hN : N ≤ 1000000) (hst : soundB r.stamp = true) : Inv (commitS s r).1 (N + sumD r.batch.puts) := by
 unfold commitS
 split
 ·rename_i hz
  obtain ⟨h1, h2, h3, h4, h5⟩ := mayS_zero hz
  rw [h4]
  exact h.put h1 (putS_spec h.tab h1 hst fun n => by have := h.evs n; omega) (busy_free fun p hp => (h2 p hp).2).1
 ·exact h.mono (by omega)
theorem prepare_inv {s : St} {N : Nat} {r : Rec} (h : Inv s N) : Inv (prepareS s r).1 (N + sumD r.batch.puts) := by
 unfold prepareS
 split
 ·exact h.mono (by omega)
 ·rename_i hno
  split
  ·exact h.mono (by omega)
  ·split
   ·rename_i hz
    obtain ⟨h1, h2, h3, h4, h5⟩ := mayS_zero hz
    have hn : getA r.tx s.held = none := by
     cases h : getA r.tx s.held with
     | none => rfl
     | some x => rw [h] at hno; simp at hno
    have hd := heldD_put (h := ⟨r.tx, r.batch, r.stamp, (mayS s r.batch).1⟩) hn
    simp only at hd
    obtain ⟨b1, b2⟩ := busy_free fun p hp => (h2 p hp).2
    have hmem : ∀ {p : Tx × Held}, p ∈ putA r.tx ⟨r.tx, r.batch, r.stamp, (mayS s r.batch).1⟩ s.held → p ∈ s.held ∨ p = (r.tx, ⟨r.tx, r.batch, r.stamp, (mayS s r.batch).1⟩) := fun {p} hp => by
     rw [putA_new hn] at hp
     rcases List.mem_append.1 hp with hp | hp
     ·exact .inl hp
     ·exact .inr (by simpa using hp)
    refine ⟨h.self, h.ring, h.tab, ?_, fun n => ?_, fun n => ?_, ?_, fun p hp => ?_, ?_, putA_nodup h.nd, h.frozen, h.fnd⟩
    ·simp only [hd]; have := h.size; omega
    ·simp only [hd]; have := h.evs n; omega
    ·simp only [hd]; have := h.kys n; omega
    ·simp only [hd]; have := h.log; omega
    ·rcases hmem hp with hp | rfl
     ·exact (h.held p hp).of (fun _ _ => rfl) (h.held p hp).serves (h.held p hp).warm
     ·exact ⟨h1, h4, fun p hp => (h2 p hp).1, b2⟩
    ·show (putA _ _ _).Pairwise _
     rw [putA_new hn, List.pairwise_append]
     refine ⟨h.apart, by simp, fun p hp q hq => ?_⟩
     simp only [List.mem_singleton] at hq
     subst hq
     exact b1 p hp
   ·exact h.mono (by omega)
theorem undo_inv {s : St} {N : Nat} {tx : Tx} {hd : Held} (h : Inv s N) (hg : getA tx s.held = some hd) (dec : List (Tx × Int)) : ∃ M, M + sumD hd.batch.puts = N ∧ Inv { s with held := delA tx s.held, decided := dec } M ∧ ∀ p ∈ delA tx s.held, ∀ a ∈ p.2.batch.puts, ∀ q ∈ hd.batch.puts, a.stream ≠ q.stream := by
 have hs := heldD_del hg
 have h1 := h.size
 refine ⟨N - sumD hd.batch.puts, by omega, ?_, ?_⟩
 ·have hsub := delA_sub tx s.held
  refine ⟨h.self, h.ring, h.tab, by simp only []; omega, fun n => by have := h.evs n; simp only []; omega, fun n => by have := h.kys n; simp only []; omega, by have := h.log; simp only []; omega, fun p hp => ?_, h.apart.sublist hsub, delA_nodup h.nd, h.frozen, h.fnd⟩
  have := h.held p (hsub.subset hp)
  exact this.of (fun _ _ => rfl) this.serves this.warm
 ·have hap := h.apart
  have hnd := h.nd
  clear hs h1
  generalize s.held = l at *
  induction l with
  | nil => cases hg
  | cons p l ih =>
    obtain ⟨x, v⟩ := p
    rw [List.pairwise_cons] at hap
    simp only [List.map_cons, List.nodup_cons] at hnd
    unfold getA at hg
    unfold delA
    split at hg
    ·rename_i hx
     injection hg with hg; subst hg
     rw [if_pos hx]
     exact fun p hp a ha q hq e => hap.1 p hp q hq a ha e.symm
    ·rename_i hne
     rw [if_neg hne]
     intro p hp
     rcases List.mem_cons.1 hp with rfl | hp
     ·exact fun a ha q hq => hap.1 _ (getA_mem hg) a ha q hq
     ·exact ih hg hap.2 hnd.2 p hp
theorem decide_inv {s : St} {N : Nat} {r : Rec} (h : Inv s N) (hN : N ≤ 1000000) (hst : soundB r.stamp = true) : Inv (decideS s r).1 N := by
 unfold decideS
 cases hg : getA r.tx s.held with
 | none => exact h
 | some hd =>
   obtain ⟨M, hM, hI, hF⟩ := undo_inv h hg (putA r.tx 1 s.decided)
   have hh := h.held _ (getA_mem hg)
   dsimp only
   split
   ·have e : hd.firsts = firstsT s.table hd.batch.puts := hh.firsts
    have := hI.put hh.check (putS_spec (st := r.stamp) hI.tab hh.check hst fun n => by have := hI.evs n; omega) hF
    rw [hM] at this
    rw [e]
    exact this
   ·exact hI.mono (by omega)
theorem outcome_inv {s : St} {N : Nat} {r : Rec} (h : Inv s N) : Inv (outcomeS s r).1 N := by
 unfold outcomeS
 split
 ·exact h
 ·split
  ·exact h
  ·exact h.same rfl rfl rfl rfl rfl rfl rfl
theorem forget_inv {s : St} {N : Nat} {r : Rec} (h : Inv s N) : Inv (forgetS s r).1 N := by
 unfold forgetS
 split
 ·exact h
 ·exact h.same rfl rfl rfl rfl rfl rfl rfl
theorem iced_neg {s : St} {k : Int} (h : ¬ 0 ≤ icedS s k) : ∀ f ∈ s.frozen, f.range.has k = false := by
 unfold icedS at h
 rcases idxI_spec (fun f : Rec => f.range.has k) s.frozen with ⟨_, hn⟩ | ⟨a, x, b, _, _, _, hi⟩
 ·exact hn
 ·rw [hi] at h; omega
theorem split_inv {s : St} {N : Nat} {r : Rec} (h : Inv s N) : Inv (splitS s r).1 N := by
 unfold splitS
 split
 ·exact h
 ·rename_i hc
  split
  ·exact h
  ·rename_i hc2
   simp only [not_or] at hc hc2
   split
   ·rename_i hz
    obtain ⟨a, x, b, hl, hx, hne, he, hs, _⟩ := split_spec hz
    have hice := iced_neg hc2.1
    have hf : (findR s.ring r.n).1 = x := by
     obtain ⟨m1, m2, _⟩ := find_mem (by simpa using hc.1 : (findR s.ring r.n).2 = true)
     exact soundFrom_uniq (sound_iff.1 h.ring).1 m1 (by rw [hl]; simp) m2 hx
    have hown : x.owner = s.self := by rw [← hf]; simpa using hc.2
    refine ⟨h.self, hs, h.tab, h.size, h.evs, h.kys, h.log, fun p hp => ?_, h.apart, h.nd, fun f hf => ?_, h.fnd⟩
    ·have hh := h.held p hp
     refine hh.of (fun _ _ => rfl) (fun q hq => ?_) hh.warm
     have := hh.serves q hq
     rw [serves_iff h.ring] at this
     rw [serves_iff hs]
     obtain ⟨y, hy, hy1, hy2⟩ := this
     show ∃ x ∈ (splitR s.ring r.n).1, _
     rw [he]
     rw [hl] at hy
     rcases List.mem_append.1 hy with hy | hy
     ·exact ⟨y, by simp [hy], hy1, hy2⟩
     ·rcases List.mem_cons.1 hy with rfl | hy
      ·rw [has_iff] at hy1
       by_cases hh : hashS q.stream < r.n
       ·exact ⟨{ y with last := r.n - 1, epoch := y.epoch + 1 }, by simp, has_iff.2 ⟨hy1.1, by simp only []; omega⟩, hy2⟩
       ·exact ⟨{ y with first := r.n, epoch := y.epoch + 1 }, by simp, has_iff.2 ⟨by simp only []; omega, hy1.2⟩, hy2⟩
      ·exact ⟨y, by simp [hy], hy1, hy2⟩
    ·obtain ⟨f1, f2, f3⟩ := h.frozen f hf
     refine ⟨?_, f2, f3⟩
     show f.range ∈ (splitR s.ring r.n).1
     rw [he]
     rw [hl] at f1
     rcases List.mem_append.1 f1 with hy | hy
     ·simp [hy]
     ·rcases List.mem_cons.1 hy with e | hy
      ·have := hice f hf
       rw [e, hx] at this; cases this
      ·simp [hy]
   ·exact h
theorem locked_false {s : St} {r : Range} (h : ¬ lockedS s r = true) : ∀ p ∈ s.held, ∀ q ∈ p.2.batch.puts, r.has (hashS q.stream) = false := by
 intro p hp q hq
 cases hc : r.has (hashS q.stream) with
 | false => rfl
 | true =>
   exact (h (by unfold lockedS; rw [List.any_eq_true]; exact ⟨p, hp, by rw [List.any_eq_true]; exact ⟨q, hq, hc⟩⟩)).elim
theorem freeze_inv {s : St} {N : Nat} {r : Rec} (h : Inv s N) : Inv (freezeS s r).1 N := by
 unfold freezeS
 split
 ·exact h
 ·rename_i hc
  split
  ·exact h
  ·rename_i hc2
   split
   ·exact h
   ·rename_i hc3
    simp only [not_or, Decidable.not_not] at hc hc2 hc3
    have hl := locked_false hc2.2
    have hice := iced_neg hc2.1
    refine ⟨h.self, h.ring, h.tab, h.size, h.evs, h.kys, h.log, fun p hp => ?_, h.apart, h.nd, fun f hf => ?_, ?_⟩
    ·have hh := h.held p hp
     refine hh.of (fun _ _ => rfl) hh.serves (fun q hq f hf => ?_)
     rcases List.mem_append.1 hf with hf | hf
     ·exact hh.warm q hq f hf
     ·simp only [List.mem_singleton] at hf; subst hf
      exact hl p hp q hq
    ·rcases List.mem_append.1 hf with hf | hf
     ·exact h.frozen f hf
     ·simp only [List.mem_singleton] at hf; subst hf
      exact ⟨hc.1, hc.2, hc3.2.2⟩
    ·show ((s.frozen ++ [r]).map Rec.range).Nodup
     rw [List.map_append, List.nodup_append]
     refine ⟨h.fnd, by simp, fun x hx y hy e => ?_⟩
     simp only [List.map_cons, List.map_nil, List.mem_singleton] at hy
     subst hy; subst e
     obtain ⟨f, hf, e⟩ := List.mem_map.1 hx
     have := hice f hf
     rw [e] at this
     have hm := soundFrom_mem (sound_iff.1 h.ring).1 hc.1
     rw [has_iff.2 ⟨Int.le_refl _, hm.2.1⟩] at this; cases this
theorem foldl_del {T : Tab} (l : List Str) (hT : (T.map (·.1)).Nodup) (n : Str) : (n ∈ l → getA n (l.foldl (fun T n => delA n T) T) = none) ∧ (n ∉ l → getA n (l.foldl (fun T n => delA n T) T) = getA n T) := by
 induction l generalizing T with
 | nil => simp
 | cons x l ih =>
   rw [List.foldl_cons]
   obtain ⟨i1, i2⟩ := ih (delA_nodup (k := x) hT)
   rw [getA_del hT] at i2
   by_cases h1 : n ∈ l
   ·exact ⟨fun _ => i1 h1, fun q => (q (by simp [h1])).elim⟩
   ·rw [i2 h1]
    by_cases h2 : n = x
    ·simp [h2]
    ·simp [h1, h2]
theorem foldl_del_sub {T : Tab} (l : List Str) : (l.foldl (fun T n => delA n T) T).Sublist T := by
 induction l generalizing T with
 | nil => exact List.Sublist.refl _
 | cons x l ih => rw [List.foldl_cons]; exact ih.trans (delA_sub x T)
theorem drop_get {T : Tab} (hT : T.Ok) (r : Range) (n : Str) : getA n (dropT T r) = if inR r n = true then none else getA n T := by
 unfold dropT
 obtain ⟨h3, h4⟩ := foldl_del (someT T r) hT.nd n
 unfold someT at h3 h4 ⊢
 simp only [List.mem_filter, mem_sort] at h3 h4
 by_cases h1 : inR r n = true
 ·rw [if_pos h1]
  by_cases h2 : n ∈ T.map (·.1)
  ·exact h3 ⟨h2, h1⟩
  ·rw [h4 (fun q => h2 q.1)]; exact getA_none.2 h2
 ·rw [if_neg h1]; exact h4 (fun q => h1 q.2)
theorem drop_ok {T : Tab} (hT : T.Ok) (r : Range) : (dropT T r).Ok ∧ (dropT T r).length ≤ T.length := by
 have hs := foldl_del_sub (T := T) (someT T r)
 exact ⟨⟨hT.nd.sublist (hs.map _), fun p hp => hT.each p (hs.subset hp)⟩, hs.length_le⟩
theorem drop_ev {T : Tab} (hT : T.Ok) (r : Range) (n : Str) : evT (dropT T r) n = (if inR r n = true then [] else evT T n) ∧ kyT (dropT T r) n = (if inR r n = true then [] else kyT T n) := by
 unfold evT kyT
 rw [drop_get hT]
 by_cases h : inR r n = true <;> simp [h]
theorem putT_zero {l : List Stream} {T T' : Tab} (h : (putT l T).2 = 0) : okPut [] l = true ∧ putT l T' = (putAll l T', 0) := by
 unfold putT at h ⊢
 split at h
 ·rename_i h1; exact ⟨h1, if_pos h1⟩
 ·cases h
theorem putAll_len {l : List Stream} {T : Tab} : (putAll l T).length ≤ T.length + l.length := by
 unfold putAll
 induction l generalizing T with
 | nil => simp
 | cons s l ih =>
   rw [List.foldl_cons, List.length_cons]
   have h1 := ih (T := putA s.name ⟨s.events, keysOf s.keys⟩ T)
   have h2 := putA_len s.name (⟨s.events, keysOf s.keys⟩ : TS) T
   omega
theorem keysOf_len (l : List Known) : (keysOf l).length ≤ l.length := by
 have : ∀ (l : List Known) (m : List (Str × Known)), (l.foldl (fun m k => putA k.key k m) m).length ≤ m.length + l.length := by
  intro l
  induction l with
  | nil => simp
  | cons k l ih =>
    intro m
    rw [List.foldl_cons, List.length_cons]
    have h1 := ih (putA k.key k m)
    have h2 := putA_len k.key k m
    omega
 have h := this l []
 rwa [List.length_nil, Nat.zero_add] at h
def streamsD (l : List Stream) : Nat := (l.map fun s => s.events.length + s.keys.length + 1).sum
theorem streamsD_mem {l : List Stream} {s : Stream} (h : s ∈ l) : s.events.length + s.keys.length + 1 ≤ streamsD l := by
 unfold streamsD
 induction l with
 | nil => cases h
 | cons x l ih =>
   simp only [List.map_cons, List.sum_cons]
   rcases List.mem_cons.1 h with rfl | h
   ·omega
   ·have := ih h; omega
theorem streamsD_len (l : List Stream) : l.length ≤ streamsD l := by
 unfold streamsD
 induction l with
 | nil => simp
 | cons x l ih => simp only [List.map_cons, List.sum_cons, List.length_cons]; omega
theorem putAll_ev {l : List Stream} {T : Tab} (hn : (l.map Stream.name).Nodup) (n : Str) : (∃ s ∈ l, s.name = n ∧ evT (putAll l T) n = s.events ∧ kyT (putAll l T) n = keysOf s.keys) ∨ ((∀ s ∈ l, s.name ≠ n) ∧ evT (putAll l T) n = evT T n ∧ kyT (putAll l T) n = kyT T n) := by
 by_cases h : n ∈ l.map Stream.name
 ·obtain ⟨s, hs, rfl⟩ := List.mem_map.1 h
  left
  refine ⟨s, hs, rfl, ?_, ?_⟩
  ·unfold evT; rw [putAll_in hn hs]; rfl
  ·unfold kyT; rw [putAll_in hn hs]; rfl
 ·right
  refine ⟨fun s hs e => h (List.mem_map.2 ⟨s, hs, e⟩), ?_, ?_⟩
  ·unfold evT; rw [putAll_out h]
  ·unfold kyT; rw [putAll_out h]
theorem newer_iff {s : St} {r : Range} : newerS s r = true ↔ r.owner = s.self ∧ ∀ x ∈ s.ring, ¬ (r.first ≤ r.last ∧ x.first ≤ r.last ∧ r.first ≤ x.last ∧ (x.owner = s.self ∨ r.epoch ≤ x.epoch)) := by
 unfold newerS
 simp only [Bool.and_eq_true, decide_eq_true_eq, List.all_eq_true, Bool.not_eq_true', Bool.and_eq_false_iff, Bool.or_eq_false_iff, decide_eq_false_iff_not]
 constructor
 ·rintro ⟨h1, h2⟩
  refine ⟨h1, fun x hx q => ?_⟩
  have := h2 x hx
  omega
 ·rintro ⟨h1, h2⟩
  refine ⟨h1, fun x hx => ?_⟩
  have := h2 x hx
  omega
theorem span_iff {r : Range} : spanB r = true ↔ r.first ≤ r.last ∧ r.last ≤ 4294967295 ∧ 1 ≤ r.epoch ∧ r.epoch ≤ 1099511627776 := by
 simp only [spanB, Bool.and_eq_true, decide_eq_true_eq]
theorem install_inv {s : St} {N : Nat} {r : Rec} (h : Inv s N) (hsp : 0 ≤ r.range.first) : Inv (installS s r).1 (N + streamsD r.streams) := by
 unfold installS
 split
 ·exact h.mono (by omega)
 ·rename_i hnew
  split
  ·exact h.mono (by omega)
  ·rename_i hc
   split
   ·exact h.mono (by omega)
   ·rename_i hlen
    simp only [not_or, Decidable.not_not] at hc
    obtain ⟨c1, c2, c3⟩ := hc
    obtain ⟨hok, hput⟩ := putT_zero (T' := dropT (freshT s.table) r.range) c3
    obtain ⟨o1, o2, _⟩ := (okPut_iff _ _).1 hok
    have hnw := newer_iff.1 (by simpa using hnew)
    have hsn := span_iff.1 (by simpa using c1)
    have hself := h.self
    have hring : soundR (aroundR s.ring r.range) = true := around_ok h.ring hsp hsn.1 hsn.2.1 (ownedB_iff.2 ⟨by omega, by omega, hsn.2.2.1, hsn.2.2.2⟩) (by omega)
    have hin : ∀ x ∈ r.streams, r.range.has (hashS x.name) = true := fun x hx => by
     cases hq : r.range.has (hashS x.name) with
     | true => rfl
     | false => exact (c2 (by rw [List.any_eq_true]; exact ⟨x, hx, by rw [hq]; rfl⟩)).elim
    have hout : ∀ x ∈ s.ring, x.owner = s.self → x.last < r.range.first ∨ r.range.last < x.first := fun x hx e => by
     have := hnw.2 x hx
     omega
    obtain ⟨hL, hO⟩ := fresh_like hashS_bd h.tab
    obtain ⟨f1, f2⟩ := fresh_len h.tab
    obtain ⟨d1, d2⟩ := drop_ok hO r.range
    rw [hput]
    dsimp only
    have hev : ∀ n, (evT (putAll r.streams (dropT (freshT s.table) r.range)) n).length ≤ (evT s.table n).length + streamsD r.streams ∧ (kyT (putAll r.streams (dropT (freshT s.table) r.range)) n).length ≤ (kyT s.table n).length + streamsD r.streams := fun n => by
     rcases putAll_ev (T := dropT (freshT s.table) r.range) o2 n with ⟨x, hx, _, e1, e2⟩ | ⟨_, e1, e2⟩
     ·have := streamsD_mem hx
      have := keysOf_len x.keys
      rw [e1, e2]; omega
     ·have h1 := drop_ev hO r.range n
      have h2 := like_ev hL n
      have h3 := f2 n
      rw [e1, e2, h1.1, h1.2, h2]
      split
      ·simp
      ·omega
    have hsv : ∀ n, servesS s n = true → servesS { s with ring := aroundR s.ring r.range, table := putAll r.streams (dropT (freshT s.table) r.range) } n = true ∧ r.range.has (hashS n) = false := fun n hn => by
     rw [serves_iff h.ring] at hn
     obtain ⟨x, hx, h1, h2⟩ := hn
     have hno : r.range.has (hashS n) = false := by
      cases hq : r.range.has (hashS n) with
      | false => rfl
      | true => rw [has_iff] at hq h1; have := hout x hx h2; omega
     refine ⟨?_, hno⟩
     rw [serves_iff hring]
     obtain ⟨y, hy, y1, y2, _⟩ := around_out hx h1 hno
     exact ⟨y, hy, y1, y2.trans h2⟩
    refine ⟨h.self, hring, putAll_ok d1 o1, ?_, fun n => ?_, fun n => ?_, ?_, fun p hp => ?_, h.apart, h.nd, fun f hf => ?_, h.fnd⟩
    ·have := putAll_len (l := r.streams) (T := dropT (freshT s.table) r.range)
     have := streamsD_len r.streams
     have := h.size
     simp only []; omega
    ·have := (hev n).1; have := h.evs n; simp only []; omega
    ·have := (hev n).2; have := h.kys n; simp only []; omega
    ·have := h.log; simp only []; omega
    ·have hh := h.held p hp
     refine hh.of (fun q hq => ?_) (fun q hq => (hsv _ (hh.serves q hq)).1) hh.warm
     have hno := (hsv _ (hh.serves q hq)).2
     simp only [version_ev]
     rcases putAll_ev (T := dropT (freshT s.table) r.range) o2 q.stream with ⟨x, hx, e, _⟩ | ⟨_, e1, _⟩
     ·have := hin x hx
      rw [e, hno] at this; cases this
     ·rw [e1, (drop_ev hO r.range q.stream).1, if_neg (by unfold inR; rw [hno]; simp), like_ev hL]
    ·obtain ⟨a1, a2, a3⟩ := h.frozen f hf
     refine ⟨List.mem_flatMap.2 ⟨f.range, a1, ?_⟩, a2, a3⟩
     have hm := soundFrom_mem (sound_iff.1 h.ring).1 a1
     rcases hout _ a1 a2 with ho | ho
     ·unfold aroundX
      dsimp only
      rw [if_pos (show f.range.first ≤ min f.range.last (r.range.first - 1) by omega), show min f.range.last (r.range.first - 1) = f.range.last by omega]
      simp
     ·unfold aroundX
      dsimp only
      rw [if_pos (show max f.range.first (r.range.last + 1) ≤ f.range.last by omega), show max f.range.first (r.range.last + 1) = f.range.first by omega]
      simp
theorem eraseIdx_of_split {α : Type} (a b : List α) (x : α) : (a ++ x :: b).eraseIdx a.length = a ++ b := by
 induction a with
 | nil => rfl
 | cons y a ih => simp [ih]
theorem release_inv {s : St} {N : Nat} {r : Rec} (h : Inv s N) : Inv (releaseS s r).1 N := by
 unfold releaseS
 dsimp only
 split
 ·exact h
 ·rename_i hi
  split
  ·exact h
  ·rename_i hc
   split
   ·exact h
   ·rename_i hz
    simp only [Decidable.not_not] at hz
    obtain ⟨a, x, b, hl, e1, e2, he, hs, _, ho⟩ := set_spec hz
    rcases idxI_spec (fun f : Rec => decide (f.range.first = r.range.first) && decide (f.range.last = r.range.last)) s.frozen with ⟨hn, _⟩ | ⟨fa, fx, fb, hfl, _, hfx, hfi⟩
    ·rw [hn] at hi; exact absurd (by omega) hi
    ·simp only [Bool.and_eq_true, decide_eq_true_eq] at hfx
     have hx : x ∈ s.ring := by rw [hl]; simp
     have hxm := soundFrom_mem (sound_iff.1 h.ring).1 hx
     have hfr := h.frozen fx (by rw [hfl]; simp)
     have hfe : fx.range = x := soundFrom_uniq (sound_iff.1 h.ring).1 hfr.1 hx (k := x.first) (has_iff.2 (by omega)) (has_iff.2 (by omega))
     have hera : s.frozen.eraseIdx (idxI (fun f : Rec => decide (f.range.first = r.range.first) && decide (f.range.last = r.range.last)) s.frozen).toNat = fa ++ fb := by
      rw [hfi, hfl]; exact eraseIdx_of_split fa fb fx
     rw [hera]
     have hsub : ∀ f, f ∈ fa ++ fb → f ∈ s.frozen := fun f hf => by
      rw [hfl]
      rcases List.mem_append.1 hf with hf | hf <;> simp [hf]
     have hnd := h.fnd
     rw [hfl, List.map_append, List.map_cons, List.nodup_append] at hnd
     obtain ⟨n1, n2, n3⟩ := hnd
     rw [List.nodup_cons] at n2
     obtain ⟨hL, hO⟩ := fresh_like hashS_bd h.tab
     obtain ⟨f1, f2⟩ := fresh_len h.tab
     obtain ⟨d1, d2⟩ := drop_ok hO r.range
     have hev : ∀ n, (evT (dropT (freshT s.table) r.range) n).length ≤ (evT s.table n).length ∧ (kyT (dropT (freshT s.table) r.range) n).length ≤ (kyT s.table n).length := fun n => by
      have h1 := drop_ev hO r.range n
      have h2 := like_ev hL n
      have h3 := f2 n
      rw [h1.1, h1.2, h2]
      split
      ·simp
      ·omega
     refine ⟨h.self, hs, d1, ?_, fun n => ?_, fun n => ?_, h.log, fun p hp => ?_, h.apart, h.nd, fun f hf => ?_, ?_⟩
     ·have := h.size; simp only []; omega
     ·have := (hev n).1; have := h.evs n; simp only []; omega
     ·have := (hev n).2; have := h.kys n; simp only []; omega
     ·have hh := h.held p hp
      have hno : ∀ q ∈ p.2.batch.puts, r.range.has (hashS q.stream) = false := fun q hq => by
       have := hh.warm q hq fx (by rw [hfl]; simp)
       cases hq : r.range.has (hashS q.stream) with
       | false => rfl
       | true => rw [has_iff] at hq; rw [has_iff.2 (by omega)] at this; cases this
      refine hh.of (fun q hq => ?_) (fun q hq => ?_) (fun q hq f hf => hh.warm q hq f (hsub f hf))
      ·simp only [version_ev]
       rw [(drop_ev hO r.range q.stream).1, if_neg (by unfold inR; rw [hno q hq]; simp), like_ev hL]
      ·have := hh.serves q hq
       rw [serves_iff h.ring] at this
       rw [serves_iff hs]
       obtain ⟨y, hy, y1, y2⟩ := this
       refine ⟨y, ?_, y1, y2⟩
       show y ∈ (setR s.ring r.range).1
       rw [he]
       rw [hl] at hy
       rcases List.mem_append.1 hy with hy | hy
       ·simp [hy]
       ·rcases List.mem_cons.1 hy with rfl | hy
        ·have := hno q hq
         rw [has_iff] at y1
         rw [has_iff.2 (by omega)] at this; cases this
        ·simp [hy]
     ·obtain ⟨a1, a2, a3⟩ := h.frozen f (hsub f hf)
      refine ⟨?_, a2, a3⟩
      show f.range ∈ (setR s.ring r.range).1
      rw [he]
      rw [hl] at a1
      rcases List.mem_append.1 a1 with hy | hy
      ·simp [hy]
      ·rcases List.mem_cons.1 hy with e | hy
       ·exfalso
        rcases List.mem_append.1 hf with hf | hf
        ·exact n3 f.range (List.mem_map.2 ⟨f, hf, rfl⟩) fx.range (by simp) (by rw [e, hfe])
        ·exact n2.1 (List.mem_map.2 ⟨f, hf, by rw [e, hfe]⟩)
       ·simp [hy]
     ·show ((fa ++ fb).map Rec.range).Nodup
      rw [List.map_append, List.nodup_append]
      exact ⟨n1, n2.2, fun x hx y hy => n3 x hx y (by simp [hy])⟩
theorem apply_inv {s : St} {N : Nat} {r : Rec} (h : Inv s N) (hN : N ≤ 1000000) : Inv (applyS s r).1 (N + costR r) := by
 unfold applyS
 split
 ·exact h.mono (by omega)
 ·rename_i hc
  simp only [Decidable.not_not] at hc
  have hk := checkR_kind hc
  have e : costR r = sumD r.batch.puts + streamsD r.streams := rfl
  unfold doS
  split
  ·unfold lifeS; split
   ·exact h.mono (by omega)
   ·exact Inv.mono (Inv.same (s := s) h rfl rfl rfl rfl rfl rfl rfl) (by omega)
  split
  ·unfold ceilS; split
   ·exact h.mono (by omega)
   ·exact Inv.mono (Inv.same (s := s) h rfl rfl rfl rfl rfl rfl rfl) (by omega)
  split
  ·rename_i k; exact (commit_inv h hN (checkR_batch hc (.inl k)).2).mono (by omega)
  split
  ·exact (prepare_inv h).mono (by omega)
  split
  ·rename_i k; exact (decide_inv h hN (checkR_stamp hc (.inl k))).mono (by omega)
  split
  ·exact (outcome_inv h).mono (by omega)
  split
  ·exact (forget_inv h).mono (by omega)
  split
  ·exact (split_inv h).mono (by omega)
  split
  ·exact (freeze_inv h).mono (by omega)
  split
  ·rename_i k; exact (install_inv h (checkR_span hc (.inr (.inl k))).1).mono (by omega)
  ·exact (release_inv h).mono (by omega)
end Go.Proofs.YtcmjgghkmdbphaaGreatDoor
namespace Go.Proofs.YtcmjgghkmdbphaaGreatDoor
open Go.RowKit
theorem nodup_sub_len {α : Type} [BEq α] [LawfulBEq α] {l m : List α} (hn : l.Nodup) (h : ∀ x ∈ l, x ∈ m) : l.length ≤ m.length := by
 induction l generalizing m with
 | nil => simp
 | cons x l ih =>
   simp only [List.nodup_cons] at hn
   have hx := h x (by simp)
   have := ih (m := m.erase x) hn.2 fun y hy => (List.mem_erase_of_ne (fun e : y = x => hn.1 (e ▸ hy))).2 (h y (by simp [hy]))
   rw [List.length_erase_of_mem hx] at this
   have hp : 0 < m.length := List.length_pos_of_mem hx
   rw [List.length_cons]; omega
theorem sound_few {l : List Range} (h : soundR l = true) : l.length ≤ 64 := (sound_iff.1 h).2
theorem i64_of {n : Int} (h : -9000000000000000000 ≤ n ∧ n ≤ 9000000000000000000) : i64 n := ⟨by omega, by omega⟩
theorem sound_fit {s : Stamp} (h : soundB s = true) : s.fit := by
 simp only [soundB, withinB, Bool.and_eq_true, decide_eq_true_eq] at h
 exact ⟨i64_of (by omega), i64_of (by omega), i64_of (by omega)⟩
theorem knownB_fit {k : Known} (h : knownB k = true) : k.fit := by
 obtain ⟨_, h2, h3, h4, h5⟩ := knownB_iff.1 h
 have := keyB_short h2
 exact ⟨by unfold sfit; omega, i64_of (by omega), sound_fit h5⟩
theorem zeroKnown_fit : zeroKnown.fit := ⟨by show (0 : Nat) ≤ _; omega, show i64 0 from i64_of (by omega), ⟨show i64 0 from i64_of (by omega), show i64 0 from i64_of (by omega), show i64 0 from i64_of (by omega)⟩⟩
theorem keys_len {s : TS} {n : Str} (h : s.Ok n) : (streamOf n s).keys.length = s.keys.length := by
 have := congrArg List.length (keys_fst h)
 rw [List.length_map] at this
 rw [this, (sort_perm _).length_eq, List.length_map]
theorem Inv.fit {s : St} {N : Nat} (h : Inv s N) (hN : N ≤ 39000) : Fit s := by
 have hself := h.self
 refine ⟨by omega, by have := sound_few h.ring; omega, fun n => ?_, fun n k => ?_, ?_, ?_, fun x hx => ?_⟩
 ·rw [version_ev]; have := h.evs n; omega
 ·rw [known_ky]
  cases hq : getA k (kyT s.table n) with
  | none => exact zeroKnown_fit
  | some x => exact knownB_fit ((ev_ok h.tab n).2.2.1 _ (getA_mem hq)).2.1
 ·have hsz := h.size
  have hev : ∀ p ∈ s.table, p.2.events.length ≤ 39000 ∧ p.2.keys.length ≤ 39000 := fun p hp => by
   have hg := getA_of_mem h.tab.nd (show (p.1, p.2) ∈ s.table from hp)
   have h1 := h.evs p.1
   have h2 := h.kys p.1
   unfold evT at h1
   unfold kyT at h2
   rw [hg] at h1 h2
   simp only at h1 h2
   omega
  refine ⟨by omega, fun p hp => ⟨by have := (hev p hp).1; omega, by have := (hev p hp).2; omega⟩, ⟨?_, fun x hx => ?_⟩, by have := h.log; omega, fun n => ?_⟩
  ·have h1 : (takeT s.table allHashes).length = (someT s.table allHashes).length := by rw [← take_names]; simp
   have h2 : (someT s.table allHashes).length ≤ s.table.length := by
    unfold someT
    refine Nat.le_trans (List.length_filter_le _ _) ?_
    rw [(sort_perm _).length_eq, List.length_map]; exact Nat.le_refl _
   omega
  ·obtain ⟨t, ht, he, _⟩ := (mem_take h.tab).1 hx
   have h1 := hev _ (getA_mem ht)
   have h2 := keys_len (getA_ok h.tab ht)
   rw [he]
   have h3 : (streamOf x.name t).events = t.events := rfl
   rw [h3, h2]
   simp only at h1
   omega
  ·obtain ⟨hL, _⟩ := fresh_like hashS_bd h.tab
   rw [TS.Like.version hL, version_ev]
   have := h.evs n; omega
 ·have h1 : (s.frozen.map Rec.range).length ≤ s.ring.length := nodup_sub_len h.fnd fun x hx => by
   obtain ⟨f, hf, rfl⟩ := List.mem_map.1 hx
   exact (h.frozen f hf).1
  have := sound_few h.ring
  rw [List.length_map] at h1; omega
 ·have hh := h.held x hx
  have hg := checkB_good hh.check
  refine ⟨hg.few, fun p hp => ⟨(hg.puts p hp).1.1, List.length_pos_iff.2 (hg.puts p hp).2.2.1⟩, ?_, fun n hn => ?_⟩
  ·rw [hh.firsts]; unfold firstsT; rw [List.length_map]; have := hg.few; omega
  ·rw [hh.firsts] at hn
   unfold firstsT at hn
   obtain ⟨p, hp, rfl⟩ := List.mem_map.1 hn
   rw [version_ev]; have := h.evs p.stream; omega
end Go.Proofs.YtcmjgghkmdbphaaGreatDoor
namespace Go.Proofs.YtcmjgghkmdbphaaGreatDoor
open Go.RowKit
theorem sranges_any (g : Nat) (s : St) (P : Nat → Prop) (w : World) (h : StAt w P g s) (hs : s.self ≠ 0) (hl : s.ring.length ≤ 1000000) : Calls Tryz.prog 37 #[ptrV g] w fun e w' => GotOwn RangeR w.heap.size 27 (fun _ => False) s.ring e w' ∧ Below w.heap.size w w' := by
 obtain ⟨v, hB, hI⟩ := h
 have b0 : w.cell? ⟨g, 0, none⟩ = some (.int .i64 s.self) := hB.cell 0
 have b4 : w.cell? ⟨g, 4, none⟩ = some v.ring := hB.cell 4
 have C1 := gone_any g s.self w b0 hs
 obtain ⟨A, c, hv, hc1, hc2, hrow⟩ := hI.ring
 have hvl : v.ring = .slice A s.ring.length c := by injection hv
 rw [hvl] at b4
 have C2 := clone_Range A c s.ring P w hrow (by omega)
 unfold GotOwn at C2
 clear hB hI hv hvl hrow hc1 hc2 hl b0
 unfold ptrV at C1 ⊢
 go_enter Tryz.func37, Tryz.ntmps37
 go_wp2_with fail
 refine C1.mono ?_
 clear C1
 rintro e w' ⟨rfl, rfl⟩
 go_wp2_with fail
 refine C2.mono ?_
 clear C2 b4
 rintro e w' ⟨⟨v2, rfl, hv2⟩, hb2⟩
 have HV := jh (ja hv2 hb2)
 obtain ⟨A2, c2, rfl, _⟩ := hv2.form
 clear hv2 hb2
 go_wp2_with fail
 go_ret
 exact ⟨⟨_, rfl, HV.out.1.plain range_plain⟩, HV.out.2⟩
end Go.Proofs.YtcmjgghkmdbphaaGreatDoor
namespace Go.Proofs.YtcmjgghkmdbphaaGreatDoor
open Go.RowKit Go.ChangeMaps
section
variable {κ : Type} {enc : κ → Value} {w : World} {m it : Nat} {ps left : List (κ × Value)} {F : Fence} {n : Nat} {P : Program}
variable {ops : Array Oper} {rest : List Oper} {o : Oper} {a : Act} {Q : Exit → Act → World → Prop}
theorem wpListIn_range_map (hg : o.guard = none) (mo : Operand) (t : TypeId) (hop : o.op = Op.range t mo) {kt e : TypeId} (ht : P.underlying t = some (.map kt e)) (hm : a.eval mo = .map (some m)) (h : MapAt enc w m ps)
 (hK : ∀ w', IterAt enc w' w.heap.size m ps → Below w.heap.size w w' → w'.heap.size = w.heap.size + 1 → wpListIn F n P ops Q rest (a.put o.dst (.pointer (some ⟨w.heap.size, 0, none⟩))) w') : wpListIn F n P ops Q (o :: rest) a w := by
 refine wpListIn_plain hg fun K' hK' => ?_
 obtain ⟨w', hrun, r1, r2, r3⟩ := run_range_at (P := P) ht h
 unfold Oper.wpIn
 refine ⟨?_, ?_⟩
 ·simp [Oper.about, hop]
 ·rw [Oper.semAt_plain F _ _ (by rw [hop]; intro c hc'; cases hc')]
  simp [execOp, hop, hm, hrun, Result.andThen]
  exact hK' _ _ (hK w' r1 r2 r3)
theorem wpListIn_next_map (hg : o.guard = none) (ito : Operand) (hop : o.op = Op.next ito false) (hit : a.eval ito = .pointer (some ⟨it, 0, none⟩)) (h : IterAt enc w it m left)
 (hDone : left = [] → wpListIn F n P ops Q rest (a.put o.dst (.tuple #[.bool false])) w)
 (hMore : ∀ (i : Nat) (p : κ × Value) (w' : World), left[i]? = some p → IterAt enc w' it m (left.eraseIdx i) → Only (· = it) w w' → w'.heap.size = w.heap.size →
  (∀ w'', w''.heap[m]? = w'.heap[m]? → w''.heap[it]? = w'.heap[it]? → (Instr.entry (.pointer (some ⟨it, 0, none⟩))).run P w'' = .ok (.tuple #[enc p.1, p.2]) w'') → wpListIn F n P ops Q rest (a.put o.dst (.tuple #[.bool true, enc p.1, p.2])) w') : wpListIn F n P ops Q (o :: rest) a w := by
 refine wpListIn_plain hg fun K' hK' => ?_
 unfold Oper.wpIn
 refine ⟨by simp [Oper.about, hop], ?_⟩
 rw [Oper.semAt_plain F _ _ (by rw [hop]; intro c hc'; cases hc')]
 rcases run_next_iter (P := P) o.type h with ⟨h0, hrun⟩ | ⟨i, p, w', hp, hrun, r1, r2, r3, r4⟩
 ·simp [execOp, hop, hit, hrun, Result.andThen]
  exact hK' _ _ (hDone h0)
 ·simp [execOp, hop, hit, hrun, Result.andThen]
  exact hK' _ _ (hMore i p w' hp r1 r2 r3 r4)
theorem wpListIn_range_nil (hg : o.guard = none) (mo : Operand) (t : TypeId) (hop : o.op = Op.range t mo) {kt e : TypeId} (ht : P.underlying t = some (.map kt e)) (hm : a.eval mo = .map none)
 (hK : ∀ w', IterNil w' w.heap.size → Below w.heap.size w w' → w'.heap.size = w.heap.size + 1 → wpListIn F n P ops Q rest (a.put o.dst (.pointer (some ⟨w.heap.size, 0, none⟩))) w') : wpListIn F n P ops Q (o :: rest) a w := by
 refine wpListIn_plain hg fun K' hK' => ?_
 have hrun := run_range_nilMap (P := P) w t kt e ht
 unfold Oper.wpIn
 refine ⟨by simp [Oper.about, hop], ?_⟩
 rw [Oper.semAt_plain F _ _ (by rw [hop]; intro c hc'; cases hc')]
 simp [execOp, hop, hm, hrun, Result.andThen]
 exact hK' _ _ (hK _ ⟨_, _, _, heap_alloc_new w _⟩ ((jb _ _).al _) (by simp))
theorem wpListIn_next_nil (hg : o.guard = none) (ito : Operand) (hop : o.op = Op.next ito false) (hit : a.eval ito = .pointer (some ⟨it, 0, none⟩)) (h : IterNil w it)
 (hDone : wpListIn F n P ops Q rest (a.put o.dst (.tuple #[.bool false])) w) : wpListIn F n P ops Q (o :: rest) a w := by
 refine wpListIn_plain hg fun K' hK' => ?_
 obtain ⟨x, s, b, h⟩ := h
 have hrun : (Instr.next (.pointer (some ⟨it, 0, none⟩)) false o.type).run P w = .ok (.tuple #[.bool false]) w := by
  simp only [Instr.next, getObj, Sem.run_bind, Sem.run, h, Result.andThen]
  rfl
 unfold Oper.wpIn
 refine ⟨by simp [Oper.about, hop], ?_⟩
 rw [Oper.semAt_plain F _ _ (by rw [hop]; intro c hc'; cases hc')]
 simp [execOp, hop, hit, hrun, Result.andThen]
 exact hK' _ _ hDone
end
end Go.Proofs.YtcmjgghkmdbphaaGreatDoor
