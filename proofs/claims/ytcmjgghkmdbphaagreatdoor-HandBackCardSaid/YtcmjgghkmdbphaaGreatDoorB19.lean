/- state.install. ring.Set. slices.Delete at records: one element taken out of an owned slice. slices.Delete at records. The law file's own small: are records looked at? -/
import Derived.Test.YtcmjgghkmdbphaaGreatDoorB18
import Derived.Test.YtcmjgghkmdbphaaGreatDoorB14
import Derived.Test.YtcmjgghkmdbphaaGreatDoorB13
import Derived.Test.YtcmjgghkmdbphaaGreatDoorB03
import Derived.Deep.AppendSrc
import Derived.Test.YtcmjgghkmdbphaaGreatDoorB17
import Derived.Test.YtcmjgghkmdbphaaGreatDoorB12
import Derived.Test.YtcmjgghkmdbphaaGreatDoorB04
import Derived.Test.YtcmjgghkmdbphaaGreatDoorB08
set_option maxRecDepth 20000
set_option maxHeartbeats 25600000
namespace Go.Proofs.YtcmjgghkmdbphaaGreatDoor
open Go.RowKit
theorem installHas_any (b : Nat) (r : Rec) (nA pA sA : Option Addr) (nc pc sc : Nat) (x : Stream) (A A' : Option Addr) (c c' : Nat) (w : World) (hb : Blk w b 46 (r.cells nA nc pA pc sA sc)) (hs : sfit x.name) :
 Calls Tryz.prog 188 #[.agg #[.string x.name, .slice A x.events.length c, .slice A' x.keys.length c'], .pointer (some ⟨b, 0, none⟩)] w fun e w' => e = .returned (.bool (!r.range.has (hashS x.name))) ∧ Below w.heap.size w w' := by
 have hb0 := (jb w.heap.size w).al (.cells #[.string x.name, .slice A x.events.length c, .slice A' x.keys.length c'] 199)
 have B0 := Blk.new w 199 [.string x.name, .slice A x.events.length c, .slice A' x.keys.length c']
 have C1 := fun W => hashI_any x.name W hs
 have C2 := fun W => has_any r.range (hashS x.name) W
 unfold Range.val at C2
 have BR := hb.ext hb0
 clear hs hb
 go_enter Tryz.func188, Tryz.ntmps188
 go_upto_region 1 with fail
 generalize hw1 : (w.alloc (.cells #[.string x.name, .slice A x.events.length c, .slice A' x.keys.length c'] 199)) = w1 at *
 clear hw1
 have z0 := On.cell (BR.cell 13 : w1.cell? ⟨b, 13, none⟩ = some (.int .i64 r.range.first))
 have z1 := On.cell (BR.cell 14 : w1.cell? ⟨b, 14, none⟩ = some (.int .i64 r.range.last))
 have z2 := On.cell (BR.cell 15 : w1.cell? ⟨b, 15, none⟩ = some (.int .i64 r.range.owner))
 have z3 := On.cell (BR.cell 16 : w1.cell? ⟨b, 16, none⟩ = some (.int .i64 r.range.epoch))
 have y0 := On.cell (B0.cell 0 : w1.cell? ⟨w.heap.size, 0, none⟩ = some (.string x.name))
 have hlo := jb w1.heap.size w1
 have HB0 := jh hb0
 clear BR B0 hb0
 refine wp_region_mix (.seg [0, 1, 2, 3] 4 (.seg [] 5 (.leaf [6, 7]))) (fun w' => ∃ d : Wd (On w1), w' = d.w) (by kernel_rfl) (by kernel_rfl) (fun _ _ d _ _ h => by cases d <;> exact h) (ClsW.mk hlo.drew) ?_
 unfold wpMix; simp only [pick, j1, j2, j3, j4]
 (repeat (show wpQuiet _ _ _ _ (_ :: _) _; go_big_quiet_step (fail))); refine qn ?_
 go_wp2_with fail
 refine (C1 _).mono ?_
 rintro e w' ⟨rfl, rfl⟩
 go_wp2_with fail
 (refine segw (D := On w1) (hlo.drew) ?_; unfold wpMix; simp only [pick, j1, j2, j3, j4]; (repeat (show wpQuiet _ _ _ _ (_ :: _) _; go_big_quiet_step (fail))); refine qn ?_)
 go_wp2_with fail
 refine (C2 _).mono ?_
 rintro e w3 ⟨rfl, hb3'⟩
 have hb3 : Below w1.heap.size w1 w3 := hlo.drew.tr hb3'
 have HB3 := jh (HB0.out.tr hb3)
 clear hb3'
 go_wp2_with fail
 (refine segw (D := On w1) (hb3) ?_; unfold wpMix; simp only [pick, j1, j2, j3, j4]; (repeat (show wpQuiet _ _ _ _ (_ :: _) _; go_big_quiet_step (fail))); refine qn ?_)
 clear z0 z1 z2 z3 y0 hlo hb3
 go_wp2_with fail
 go_ret
 exact ⟨rfl, HB3.out⟩
theorem enters_install : ∀ args w, (callFunc 188 args).run Tryz.prog w = .ok (.enter 188 args) w := enters_of Tryz.func188 (by kernel_rfl) rfl
structure InD (g nb : Nat) (s : St) (v : SV) (r : Rec) (nA : Option Addr) (nc : Nat) (pA : Option Addr) (pc : Nat) (sA : Option Addr) (sc : Nat) (W : World) : Prop where
 st : Blk W g 176 (s.cells v)
 ba : Blk W nb 46 (r.cells nA nc pA pc sA sc)
section
variable {g nb : Nat} {s : St} {v : SV} {r : Rec} {nA : Option Addr} {nc : Nat} {pA : Option Addr} {pc : Nat} {sA : Option Addr} {sc : Nat}
theorem InD.c5 (d : Wd (InD g nb s v r nA nc pA pc sA sc)) : d.w.cell? ⟨g, 5, none⟩ = some (.pointer (some ⟨v.tb, 0, none⟩)) := d.ok.st.cell 5
theorem InD.r13 (d : Wd (InD g nb s v r nA nc pA pc sA sc)) : d.w.cell? ⟨nb, 13, none⟩ = some (.int .i64 r.range.first) := d.ok.ba.cell 13
theorem InD.r14 (d : Wd (InD g nb s v r nA nc pA pc sA sc)) : d.w.cell? ⟨nb, 14, none⟩ = some (.int .i64 r.range.last) := d.ok.ba.cell 14
theorem InD.r15 (d : Wd (InD g nb s v r nA nc pA pc sA sc)) : d.w.cell? ⟨nb, 15, none⟩ = some (.int .i64 r.range.owner) := d.ok.ba.cell 15
theorem InD.r16 (d : Wd (InD g nb s v r nA nc pA pc sA sc)) : d.w.cell? ⟨nb, 16, none⟩ = some (.int .i64 r.range.epoch) := d.ok.ba.cell 16
theorem InD.r17 (d : Wd (InD g nb s v r nA nc pA pc sA sc)) : d.w.cell? ⟨nb, 17, none⟩ = some (.slice sA r.streams.length sc) := d.ok.ba.cell 17
theorem InD.only {w w' : World} {F : Nat → Prop} (h : InD g nb s v r nA nc pA pc sA sc w) (hb : Only F w w') (h1 : ¬ F g) (h2 : ¬ F nb) : InD g nb s v r nA nc pA pc sA sc w' := ⟨h.st.only hb h1, h.ba.only hb h2⟩
theorem InD.drew {w : World} (h : InD g nb s v r nA nc pA pc sA sc w) : InD g nb s v r nA nc pA pc sA sc w.drew := ⟨Blk.drew h.st, Blk.drew h.ba⟩
end
theorem spanB_iff {r : Range} : spanB r = true ↔ r.first ≤ r.last ∧ r.last ≤ 4294967295 ∧ 1 ≤ r.epoch ∧ r.epoch ≤ 1099511627776 := by
 simp only [spanB, Bool.and_eq_true, decide_eq_true_eq]
theorem install_any (g : Nat) (s : St) (r : Rec) (nA pA sA : Option Addr) (nc pc sc : Nat) (P Q : Nat → Prop) (w : World) (h : StAt w P g s) (hg : ¬ P g) (hS : Fit s)
 (hr : RecAt w Q r nA nc pA pc sA sc) (hQ : ¬ Q g) (hF : PutFair r.streams) (h0 : 0 ≤ r.range.first) (hrl : s.ring.length ≤ 300) (hfl : (freshT s.table).length ≤ 40000) (hT : Tabs w) (h2 : 2 ≤ g) :
 Calls Tryz.prog 96 #[ptrV g, .agg (r.cells nA nc pA pc sA sc).toArray] w (StOut w P g (installS s r)) := by
 have hgl := h.lt
 have HH := jh (ja h (ja hg (ja hS (ja hr (ja hQ (ja hF hT))))))
 clear h hg hS hr hQ hF hT
 have hb1 := (jb w.heap.size w).al (.cells (r.cells nA nc pA pc sA sc).toArray 46)
 have B0 := Blk.new w 46 (r.cells nA nc pA pc sA sc)
 have hs1 : (w.alloc (.cells (r.cells nA nc pA pc sA sc).toArray 46)).heap.size = w.heap.size + 1 := by simp
 unfold ptrV
 go_enter Tryz.func96, Tryz.ntmps96
 go_upto_region 1 with fail
 refine forget (M := fun W => Code.wp _ _ _ _ W) (fun W => Below w.heap.size w W ∧ Blk W w.heap.size 46 (r.cells nA nc pA pc sA sc) ∧ W.heap.size = w.heap.size + 1) ⟨hb1, B0, hs1⟩ ?_
 clear B0 hb1 hs1
 rintro w1 ⟨hb1, B0, hs1⟩
 have z13 : w1.cell? ⟨w.heap.size, 13, none⟩ = some (.int .i64 r.range.first) := B0.cell 13
 have z14 : w1.cell? ⟨w.heap.size, 14, none⟩ = some (.int .i64 r.range.last) := B0.cell 14
 have z15 : w1.cell? ⟨w.heap.size, 15, none⟩ = some (.int .i64 r.range.owner) := B0.cell 15
 have z16 : w1.cell? ⟨w.heap.size, 16, none⟩ = some (.int .i64 r.range.epoch) := B0.cell 16
 have HSP := jh (show installS s r = (if newerS s r.range = false then (s, 8) else if spanB r.range = false ∨ (r.streams.any fun x => !r.range.has (hashS x.name)) = true ∨ (putT r.streams []).2 ≠ 0 then (s, 1) else if 64 < (aroundR s.ring r.range).length then (s, 11) else ({ s with ring := aroundR s.ring r.range, table := (putT r.streams (dropT (freshT s.table) r.range)).1 }, (putT r.streams (dropT (freshT s.table) r.range)).2)) from rfl)
 have CN := newer_any g s r.range P w1 (by obtain ⟨v', a1, a2⟩ := HH.out.1; exact ⟨v', a1.ext hb1, a2.same (js hb1)⟩) (by omega)
 unfold ptrV at CN
 have H1 := jh (ja hb1 (ja B0 hs1))
 clear hb1 B0 hs1
 go_wp2_with fail
 refine CN.mono ?_
 clear CN z13 z14 z15 z16
 rintro e w2 ⟨rfl, hb2'⟩
 have HB2 := jh (ja (H1.out.1.tr hb2') (H1.out.2.1.ext hb2'))
 clear hb2'
 cases hn : newerS s r.range
 ·have HE := jh (HSP.out.trans (if_pos hn))
  clear hn
  go_wp2_with fail
  go_ret
  unfold StOut
  rw [HE.out]
  obtain ⟨v', a1, a2⟩ := HH.out.1
  exact ⟨rfl, ⟨v', a1.ext HB2.out.1, (a2.same (js HB2.out.1)).mono fun k hk => .inl hk⟩, jo HB2.out.1⟩
 have HE := jh (HSP.out.trans (if_neg (by rw [hn]; simp)))
 clear hn
 go_upto_region 3 with fail
 have z13 := On.cell (HB2.out.2.cell 13 : w2.cell? ⟨w.heap.size, 13, none⟩ = some (.int .i64 r.range.first))
 have z14 := On.cell (HB2.out.2.cell 14 : w2.cell? ⟨w.heap.size, 14, none⟩ = some (.int .i64 r.range.last))
 have z15 := On.cell (HB2.out.2.cell 15 : w2.cell? ⟨w.heap.size, 15, none⟩ = some (.int .i64 r.range.owner))
 have z16 := On.cell (HB2.out.2.cell 16 : w2.cell? ⟨w.heap.size, 16, none⟩ = some (.int .i64 r.range.epoch))
 have z17 := On.cell (HB2.out.2.cell 17 : w2.cell? ⟨w.heap.size, 17, none⟩ = some (.slice sA r.streams.length sc))
 have hlo := jb w2.heap.size w2
 refine wp_region_mix (.seg [0, 1] 2 (.seg [3, 4, 5, 6, 7] 8 (.seg [9, 10, 12, 13] 11 (.seg [] 14 (.leaf [15, 16]))))) (fun w' => ∃ d : Wd (On w2), w' = d.w) (by kernel_rfl) (by kernel_rfl) (fun _ _ d _ _ h => by cases d <;> exact h) (ClsW.mk hlo.drew) ?_
 unfold wpMix; simp only [pick, j1, j2, j3, j4]
 (repeat (show wpQuiet _ _ _ _ (_ :: _) _; go_big_quiet_step (fail))); refine qn ?_
 go_wp2_with fail
 refine (span_any r.range _).mono ?_
 rintro e w3 ⟨rfl, hb3'⟩
 have hb3 : Below w2.heap.size w2 w3 := hlo.drew.tr hb3'
 clear hb3'
 cases hsp : spanB r.range
 ·have HE2 := jh (HE.out.trans (if_pos (.inl hsp)))
  clear hsp
  have HB3 := jh (HB2.out.1.tr hb3)
  go_wp2_with fail
  (refine segw (D := On w2) (hb3) ?_; unfold wpMix; simp only [pick, j1, j2, j3, j4]; (repeat (show wpQuiet _ _ _ _ (_ :: _) _; go_big_quiet_step (fail))); refine qn ?_)
  go_wp2_with fail
  (refine segw (D := On w2) (hb3) ?_; unfold wpMix; simp only [pick, j1, j2, j3, j4]; (repeat (show wpQuiet _ _ _ _ (_ :: _) _; go_big_quiet_step (fail))); refine qn ?_)
  go_wp2_with fail
  (refine segw (D := On w2) (hb3) ?_; unfold wpMix; simp only [pick, j1, j2, j3, j4]; (repeat (show wpQuiet _ _ _ _ (_ :: _) _; go_big_quiet_step (fail))); refine qn ?_)
  go_wp2_with fail
  (refine segw (D := On w2) (hb3) ?_; unfold wpMix; simp only [pick, j1, j2, j3, j4]; (repeat (show wpQuiet _ _ _ _ (_ :: _) _; go_big_quiet_step (fail))); refine qn ?_)
  clear z13 z14 z15 z16 z17 hlo hb3
  go_wp2_with fail
  go_ret
  unfold StOut
  rw [HE2.out]
  obtain ⟨v', a1, a2⟩ := HH.out.1
  exact ⟨rfl, ⟨v', a1.ext HB3.out, (a2.same (js HB3.out)).mono fun k hk => .inl hk⟩, jo HB3.out⟩
 ·have hsb := spanB_iff.1 hsp
  have HSB := jh (ja hsb hsp)
  clear hsp hsb
  have hw3 := HB2.out.1.tr hb3
  have B3 := HB2.out.2.ext hb3
  have C4 := hasF_Stream 188 [.pointer (some ⟨w.heap.size, 0, none⟩)] (fun x => !r.range.has (hashS x.name)) enters_install sA sc r.streams _ w3 (HH.out.2.2.2.1.streams.2.2.ext hw3) (by have := HH.out.2.2.2.2.2.1.1; omega) (fun a cs W _ ha hb' => by
   obtain ⟨Ax, cx, Ay, cy, rfl, hsf, _⟩ := stream_rep.1 ha
   exact installHas_any w.heap.size r nA pA sA nc pc sc a Ax Ay cx cy W (B3.ext hb') hsf)
  have HW3 := jh (ja hw3 hb3)
  go_wp2_with fail
  (refine segw (D := On w2) (hb3) ?_; unfold wpMix; simp only [pick, j1, j2, j3, j4]; (repeat (show wpQuiet _ _ _ _ (_ :: _) _; go_big_quiet_step (fail))); refine qn ?_)
  go_wp2_with fail
  clear hw3 B3
  refine C4.mono ?_
  clear C4
  rintro e w4 ⟨rfl, hb4'⟩
  have hb4 : Below w2.heap.size w2 w4 := hb3.tr hb4'
  have HB4 := jh (HB2.out.1.tr hb4)
  clear hb4' hb3
  cases han : r.streams.any fun x => !r.range.has (hashS x.name)
  rotate_left
  ·have HE2 := jh (HE.out.trans (if_pos (.inr (.inl han))))
   clear han
   go_wp2_with fail
   (refine segw (D := On w2) (hb4) ?_; unfold wpMix; simp only [pick, j1, j2, j3, j4]; (repeat (show wpQuiet _ _ _ _ (_ :: _) _; go_big_quiet_step (fail))); refine qn ?_)
   go_wp2_with fail
   (refine segw (D := On w2) (hb4) ?_; unfold wpMix; simp only [pick, j1, j2, j3, j4]; (repeat (show wpQuiet _ _ _ _ (_ :: _) _; go_big_quiet_step (fail))); refine qn ?_)
   go_wp2_with fail
   (refine segw (D := On w2) (hb4) ?_; unfold wpMix; simp only [pick, j1, j2, j3, j4]; (repeat (show wpQuiet _ _ _ _ (_ :: _) _; go_big_quiet_step (fail))); refine qn ?_)
   clear z13 z14 z15 z16 z17 hlo hb4
   go_wp2_with fail
   go_ret
   unfold StOut
   rw [HE2.out]
   obtain ⟨v', a1, a2⟩ := HH.out.1
   exact ⟨rfl, ⟨v', a1.ext HB4.out, (a2.same (js HB4.out)).mono fun k hk => .inl hk⟩, jo HB4.out⟩
  ·have HAN := jh han
   clear han
   go_wp2_with fail
   (refine segw (D := On w2) (hb4) ?_; unfold wpMix; simp only [pick, j1, j2, j3, j4]; (repeat (show wpQuiet _ _ _ _ (_ :: _) _; go_big_quiet_step (fail))); refine qn ?_)
   go_wp2_with fail
   refine (tnew_any _).mono ?_
   rintro e w' ⟨rfl, rfl⟩
   have hb5 := hb4.al (.cells #[.map none] 252)
   unfold ptrV
   go_wp2_with fail
   (refine segw (D := On w2) (hb5) ?_; unfold wpMix; simp only [pick, j1, j2, j3, j4]; (repeat (show wpQuiet _ _ _ _ (_ :: _) _; go_big_quiet_step (fail))); refine qn ?_)
   have hz24 := hb4.size
   have hz2 := HB2.out.1.size
   have hwz : (w4.alloc (.cells #[.map none] 252)).heap.size = w4.heap.size + 1 := by simp
   have C6 := put_any w4.heap.size [] sA sc r.streams (fun k => k = w4.heap.size) (fun k => Q k ∧ k < w4.heap.size) (w4.alloc (.cells #[.map none] 252)) ⟨rfl, .inl ⟨Blk.new w4 252 [.map none], rfl⟩⟩
    ((HH.out.2.2.2.1.streams.2.2.mono fun k h h' => (⟨h, by have := HB4.out.size; omega⟩ : Q k ∧ k < w4.heap.size)).ext (HB4.out.al _)) (fun k h1 h2 => by omega) HH.out.2.2.2.2.2.1 (HH.out.2.2.2.2.2.2.below (HB4.out.al _)) (by omega)
   unfold PutOut ptrV at C6
   generalize hq : (putT r.streams []).2 = code at C6
   have HCD := jh hq
   clear hq hwz
   go_wp2_with fail
   refine C6.mono ?_
   clear C6
   rintro e w6 ⟨rfl, _, hO6⟩
   have hb6 : Below w2.heap.size w2 w6 := hb5.trans (hO6.low (fun k e => by have e' : k = w4.heap.size := e; omega) hb5.size)
   have HB6 := jh (ja (HB2.out.1.tr hb6) (HB2.out.2.ext hb6))
   clear hO6 hb5 hb4
   by_cases hcode : code = 0
   rotate_left
   ·have HE2 := jh (HE.out.trans (if_pos (.inr (.inr (by rw [HCD.out]; exact hcode)))))
    have hc1 : (code != 0) = true := bne_iff_ne.2 hcode
    have HB6' := jh HB6.out.1
    clear hcode
    go_wp2_with fail
    (refine segw (D := On w2) (hb6) ?_; unfold wpMix; simp only [pick, j1, j2, j3, j4]; (repeat (show wpQuiet _ _ _ _ (_ :: _) _; go_big_quiet_step (fail))); refine qn ?_)
    clear z13 z14 z15 z16 z17 hlo hb6
    go_wp2_with fail
    go_ret
    unfold StOut
    rw [HE2.out]
    obtain ⟨v', a1, a2⟩ := HH.out.1
    exact ⟨rfl, ⟨v', a1.ext HB6'.out, (a2.same (js HB6'.out)).mono fun k hk => .inl hk⟩, jo HB6'.out⟩
   ·have HE2 := jh (HE.out.trans (if_neg (by rw [HCD.out, HAN.out, HSB.out.2, hcode]; simp)))
    subst hcode
    go_wp2_with fail
    (refine segw (D := On w2) (hb6) ?_; unfold wpMix; simp only [pick, j1, j2, j3, j4]; (repeat (show wpQuiet _ _ _ _ (_ :: _) _; go_big_quiet_step (fail))); refine qn ?_)
    clear z13 z14 z15 z16 z17 hlo hb6
    go_upto_region 5 with fail
    obtain ⟨v, hB, hI⟩ := HH.out.1
    obtain ⟨Ar, cr, hv, hc1, hc2, hrow⟩ := hI.ring
    have hvl : v.ring = .slice Ar s.ring.length cr := by injection hv
    have y4 : w6.cell? ⟨g, 4, none⟩ = some v.ring := (hB.ext HB6.out.1).cell 4
    rw [hvl] at y4
    have y4 := On.cell y4
    have z13 := On.cell (HB6.out.2.cell 13 : w6.cell? ⟨w.heap.size, 13, none⟩ = some (.int .i64 r.range.first))
    have z14 := On.cell (HB6.out.2.cell 14 : w6.cell? ⟨w.heap.size, 14, none⟩ = some (.int .i64 r.range.last))
    have z15 := On.cell (HB6.out.2.cell 15 : w6.cell? ⟨w.heap.size, 15, none⟩ = some (.int .i64 r.range.owner))
    have z16 := On.cell (HB6.out.2.cell 16 : w6.cell? ⟨w.heap.size, 16, none⟩ = some (.int .i64 r.range.epoch))
    have hlo := jb w6.heap.size w6
    have CA := around_any Ar cr s.ring r.range P w6.drew (hrow.ext HB6.out.1.drew) (by omega) h0 HSB.out.1.1 HSB.out.1.2.1 HH.out.2.2.2.1.range
    unfold GotOwn at CA
    have HV := jh (ja hB hI)
    clear hB hI hv hc1 hc2 hrow hvl
    generalize hAR : aroundR s.ring r.range = ring' at CA HE2
    clear hAR
    refine wp_region_mix (.seg [0, 1, 2, 3, 4, 5] 6 (.leaf [7])) (fun w' => ∃ d : Wd (On w6), w' = d.w) (by kernel_rfl) (by kernel_rfl) (fun _ _ d _ _ h => by cases d <;> exact h) (ClsW.mk hlo.drew) ?_
    unfold wpMix; simp only [pick, j1, j2, j3, j4]
    (repeat (show wpQuiet _ _ _ _ (_ :: _) _; go_big_quiet_step (fail))); refine qn ?_
    go_wp2_with fail
    refine CA.mono ?_
    clear CA
    rintro e w7 ⟨⟨v7, rfl, ho7⟩, hb7'⟩
    have hb7 : Below w6.heap.size w6 w7 := hlo.drew.tr hb7'
    obtain ⟨A7, c7, hv7, hc71, hc72⟩ := ho7.form
    subst hv7
    have HO7 := jh (ja ho7 (ja hc71 hc72))
    have HB7 := jh (ja (HB6.out.1.tr hb7) (HB6.out.2.ext hb7))
    have HB7' := jh HB7.out.1
    clear ho7 hb7' hc71 hc72
    go_wp2_with fail
    (refine segw (D := On w6) (hb7) ?_; unfold wpMix; simp only [pick, j1, j2, j3, j4]; (repeat (show wpQuiet _ _ _ _ (_ :: _) _; go_big_quiet_step (fail))); refine qn ?_)
    clear y4 z13 z14 z15 z16 hlo hb7
    by_cases h64 : 64 < ring'.length
    ·have HE3 := jh (HE2.out.trans (if_pos h64))
     have h64' : (64 : Int) < ring'.length := by omega
     clear h64
     go_wp2_with fail
     go_ret
     unfold StOut
     rw [HE3.out]
     obtain ⟨v', a1, a2⟩ := HH.out.1
     exact ⟨rfl, ⟨v', a1.ext HB7'.out, (a2.same (js HB7'.out)).mono fun k hk => .inl hk⟩, jo HB7'.out⟩
    ·have HE3 := jh (HE2.out.trans (if_neg h64))
     have h64' : ¬ (64 : Int) < ring'.length := by omega
     have y4 : w7.cell? ⟨g, 4, none⟩ = some v.ring := (HV.out.1.ext HB7.out.1).cell 4
     have f4 := (HV.out.1.ext HB7.out.1).frozen 4
     clear h64
     go_upto_region 9 with fail
     have hI7 := HV.out.2.same (js HB7.out.1)
     have hO8 : Only (· = g) w7 (w7.setCell ⟨g, 4, none⟩ (.slice A7 ring'.length c7)) := Only.set_ (F := (· = g)) rfl _
     have hI8 := (hI7.same (Same.of_only hO8 fun k hk e => HH.out.2.1 (e ▸ hk))).mono (Q := fun k => P k ∨ w.heap.size ≤ k) fun k hk => .inl hk
     have hz7 := HB7.out.1.size
     have hst8 : StAt (w7.setCell ⟨g, 4, none⟩ (.slice A7 ring'.length c7)) (fun k => P k ∨ w.heap.size ≤ k) g { s with ring := ring' } := by
      refine ⟨{ v with ring := .slice A7 ring'.length c7 }, (HV.out.1.ext HB7.out.1).set_ 4 _, { hI8 with ring := ⟨A7, c7, rfl, HO7.out.2.1, HO7.out.2.2, ?_⟩ }⟩
      refine (HO7.out.1.row' range_plain (P := fun k => w.heap.size ≤ k ∧ k ≠ g) fun q hq => ?_).same (Same.of_only hO8 fun k hk e => hk.2 e) hO8.size |>.mono fun k hk _ => .inr hk.1
      have h1 := (HO7.out.1.lt q hq).1
      have h2 := HB6.out.1.size
      have h3 : w6.drew.heap.size = w6.heap.size := rfl
      omega
     have hBx8 := HB7.out.2.only hO8 (fun e => by have e' : w.heap.size = g := e; omega)
     have hT8 := (HH.out.2.2.2.2.2.2.below HB7.out.1).only hO8 (by intro e; have e' : 0 = g := e; omega) (by intro e; have e' : 1 = g := e; omega)
     have hz8 := hO8.size
     have hOw8 : Only (· = g) w _ := (jo HB7.out.1).tr hO8
     generalize hw8 : w7.setCell ⟨g, 4, none⟩ (.slice A7 ring'.length c7) = w8 at *
     have hst8 : StAt w8 (fun k => (P k ∨ w.heap.size ≤ k) ∧ k < w8.heap.size) g { s with ring := ring' } := by obtain ⟨v', a1, a2⟩ := hst8; exact ⟨v', a1, a2.low⟩
     have hnb := HB7.out.2.lt
     have CF := fresh_any g { s with ring := ring' } (fun k => (P k ∨ w.heap.size ≤ k) ∧ k < w8.heap.size) w8 hst8 (fun h => by rcases h.1 with h | h; exact HH.out.2.1 h; omega) HH.out.2.2.1.fair.len HH.out.2.2.1.fair.each HH.out.2.2.1.fair.put hT8 (by omega)
     unfold FreshOut ptrV at CF
     have H8 := jh (ja hst8 (ja hBx8 (ja hT8 hOw8)))
     clear hw8 hI7 hI8 hO8 hst8 hBx8 hT8 hOw8 y4 f4
     go_wp2_with fail
     refine CF.mono ?_
     clear CF
     rintro e w9 ⟨rfl, ⟨v9, hB9, hT9, hR9⟩, hO9, _⟩
     have hz9 := hO9.size
     have hBx9 := H8.out.2.1.only hO9 (fun e => by have e' : w.heap.size = g := e; omega)
     have hTb9 := H8.out.2.2.1.only hO9 (by intro e; have e' : 0 = g := e; omega) (by intro e; have e' : 1 = g := e; omega)
     have H9 := jh (ja hT9 (ja hR9 (ja (H8.out.2.2.2.tr hO9) hTb9)))
     have hD : InD g w.heap.size { s with ring := ring', table := freshT s.table } v9 r nA nc pA pc sA sc w9 := ⟨hB9, hBx9⟩
     clear hB9 hT9 hR9 hO9 hBx9 hTb9
     haveI : Nonempty (Wd (InD g w.heap.size { s with ring := ring', table := freshT s.table } v9 r nA nc pA pc sA sc)) := ⟨⟨_, hD⟩⟩
     have y5 := InD.c5 (g := g) (nb := w.heap.size) (s := { s with ring := ring', table := freshT s.table }) (v := v9) (r := r) (nA := nA) (nc := nc) (pA := pA) (pc := pc) (sA := sA) (sc := sc)
     have z13 := InD.r13 (g := g) (nb := w.heap.size) (s := { s with ring := ring', table := freshT s.table }) (v := v9) (r := r) (nA := nA) (nc := nc) (pA := pA) (pc := pc) (sA := sA) (sc := sc)
     have z14 := InD.r14 (g := g) (nb := w.heap.size) (s := { s with ring := ring', table := freshT s.table }) (v := v9) (r := r) (nA := nA) (nc := nc) (pA := pA) (pc := pc) (sA := sA) (sc := sc)
     have z15 := InD.r15 (g := g) (nb := w.heap.size) (s := { s with ring := ring', table := freshT s.table }) (v := v9) (r := r) (nA := nA) (nc := nc) (pA := pA) (pc := pc) (sA := sA) (sc := sc)
     have z16 := InD.r16 (g := g) (nb := w.heap.size) (s := { s with ring := ring', table := freshT s.table }) (v := v9) (r := r) (nA := nA) (nc := nc) (pA := pA) (pc := pc) (sA := sA) (sc := sc)
     have z17 := InD.r17 (g := g) (nb := w.heap.size) (s := { s with ring := ring', table := freshT s.table }) (v := v9) (r := r) (nA := nA) (nc := nc) (pA := pA) (pc := pc) (sA := sA) (sc := sc)
     go_upto_region 10 with fail
     refine wp_region_mix (.seg [0, 1, 2, 3, 4, 5] 6 (.leaf [])) (fun w' => ∃ d : Wd (InD g w.heap.size { s with ring := ring', table := freshT s.table } v9 r nA nc pA pc sA sc), w' = d.w) (by kernel_rfl) (by kernel_rfl) (fun _ _ d _ _ h => by cases d <;> exact h) (ClsW.mk (D := InD g w.heap.size { s with ring := ring', table := freshT s.table } v9 r nA nc pA pc sA sc) hD.drew) ?_
     unfold wpMix; simp only [pick, j1, j2, j3, j4]
     (repeat (show wpQuiet _ _ _ _ (_ :: _) _; go_big_quiet_step (fail))); refine qn ?_
     have CD := drop_any v9.tb (freshT s.table) r.range (fun k => w8.heap.size ≤ k ∧ k < w9.heap.size) w9.drew (H9.out.1.ext (jb _ _).drew) hfl
     unfold ptrV at CD
     go_wp2_with fail
     refine CD.mono ?_
     clear CD
     rintro e w10 ⟨⟨n10, rfl⟩, hT10, hO10⟩
     have hz10 := hO10.size
     have hzd : w9.drew.heap.size = w9.heap.size := rfl
     have hD10 := hD.drew.only hO10 (fun h => by have := h.1; omega) (fun h => by have := h.1; omega)
     go_wp2_with fail
     dsimp only [wpList, SegQ]
     refine ⟨fun w' => ∃ d : Wd (InD g w.heap.size { s with ring := ring', table := freshT s.table } v9 r nA nc pA pc sA sc), w' = d.w, ClsW.mk (D := InD g w.heap.size { s with ring := ring', table := freshT s.table } v9 r nA nc pA pc sA sc) hD10, fun _ h => h, ?_⟩
     unfold wpMix; simp only [pick, List.filterMap_nil]
     (repeat (show wpQuiet _ _ _ _ (_ :: _) _; go_big_quiet_step (fail))); refine qn ?_
     go_upto_region 11 with fail
     refine wp_region_mix (.seg [0, 1, 2, 3, 4, 5] 6 (.leaf [7])) (fun w' => ∃ d : Wd (InD g w.heap.size { s with ring := ring', table := freshT s.table } v9 r nA nc pA pc sA sc), w' = d.w) (by kernel_rfl) (by kernel_rfl) (fun _ _ d _ _ h => by cases d <;> exact h) (ClsW.mk (D := InD g w.heap.size { s with ring := ring', table := freshT s.table } v9 r nA nc pA pc sA sc) hD10.drew) ?_
     unfold wpMix; simp only [pick, j1, j2, j3, j4]
     (repeat (show wpQuiet _ _ _ _ (_ :: _) _; go_big_quiet_step (fail))); refine qn ?_
     have hTb10 := (H9.out.2.2.2.below (jb _ w9).drew).only hO10 (fun h => by have := h.1; omega) (fun h => by have := h.1; omega)
     have hO9d : Only (fun k => w8.heap.size ≤ k ∧ k < w9.heap.size) w9 w10 := (jo (jb _ w9).drew).trans hO10 fun q hq h => h.1
     have hrw := ((HH.out.2.2.2.1.streams.2.2.mono fun k h h' => (⟨h, h'⟩ : Q k ∧ k < w.heap.size)).same (Same.of_only H9.out.2.2.1 fun k hk e => by have e' : k = g := e; exact HH.out.2.2.2.2.1 (e' ▸ hk.1)) H9.out.2.2.1.size).same (w' := w10) (Same.of_only hO9d fun k hk e => by have := e.1; have := hk.2; omega) hO9d.size
     have CP := put_any v9.tb (dropT (freshT s.table) r.range) sA sc r.streams (fun k => w8.heap.size ≤ k ∧ k < w9.heap.size) (fun k => Q k ∧ k < w.heap.size) w10.drew (hT10.ext (jb _ _).drew) (hrw.ext (jb _ _).drew) (fun k h1 h2 => by have := h1.2; have := h2.1; omega) HH.out.2.2.2.2.2.1 (hTb10.below (jb _ _).drew) (by have h1 : w10.drew.heap.size = w10.heap.size := rfl; omega)
     unfold PutOut ptrV at CP
     have H10 := jh (ja hO9d hrw)
     clear hT10 hO10 hTb10 hO9d hrw
     go_wp2_with fail
     refine CP.mono ?_
     clear CP
     rintro e w11 ⟨rfl, hT11, hO11⟩
     have hD11 := hD10.drew.only hO11 (fun h => by have := h.1; omega) (fun h => by have := h.1; omega)
     have H11 := jh (ja hT11 (ja hO11 hD11.st))
     have hz11 := hO11.size
     clear hT11 hO11
     generalize hcd : (putT r.streams (dropT (freshT s.table) r.range)).2 = code11 at *
     go_wp2_with fail
     dsimp only [wpList, SegQ]
     refine ⟨fun w' => ∃ d : Wd (InD g w.heap.size { s with ring := ring', table := freshT s.table } v9 r nA nc pA pc sA sc), w' = d.w, ClsW.mk (D := InD g w.heap.size { s with ring := ring', table := freshT s.table } v9 r nA nc pA pc sA sc) hD11, fun _ h => h, ?_⟩
     unfold wpMix; simp only [pick, j1, j2, j3, j4]
     (repeat (show wpQuiet _ _ _ _ (_ :: _) _; go_big_quiet_step (fail))); refine qn ?_
     clear y5 z13 z14 z15 z16 z17
     go_wp2_with fail
     go_ret
     unfold StOut
     rw [HE3.out]
     have hzd10 : w10.drew.heap.size = w10.heap.size := rfl
     have hO11' : Only (fun k => w8.heap.size ≤ k ∧ k < w9.heap.size) w9 w11 := H10.out.1.tr ((jo (jb _ w10).drew).tr H11.out.2.1)
     refine ⟨by first | rfl | rw [hcd], ⟨v9, H11.out.2.2, StRest.full (s := { s with ring := ring', table := (putT r.streams (dropT (freshT s.table) r.range)).1 }) ?_ (H11.out.1.mono fun k hk => ?_)⟩, ?_⟩
     ·have h1 := (H9.out.2.1.same (Same.of_only hO11' fun k hk e => by have := e.1; have := hk.2; omega)).mono (Q := fun k => P k ∨ w.heap.size ≤ k) fun k hk _ => hk.1
      exact ⟨h1.fit, h1.ring, h1.held, h1.outcomes, h1.decided, h1.frozen, h1.log⟩
     ·rcases hk with hk | hk
      ·exact .inr (by have := hk.1; omega)
      ·exact .inr (by omega)
     ·exact H9.out.2.2.1.trans hO11' fun q hq h => by have := h.1; omega
end Go.Proofs.YtcmjgghkmdbphaaGreatDoor
namespace Go.Proofs.YtcmjgghkmdbphaaGreatDoor
open Go.RowKit
theorem own_range_set {w : World} {B e : Nat} {v : Value} {l : List Range} {k : Nat} {x r : Range} (h : RangeR.Own w B e (fun _ => False) v l) (hk : l[k]? = some x) (_hx : x.fit) (hf : r.fit) :
 ∃ g c, v = .slice (some ⟨g, 0, none⟩) l.length c ∧ B ≤ g ∧ g < w.heap.size ∧ l.length ≤ c ∧ (∀ j, j < 4 → w.frozen? ⟨g, k * 4 + j, none⟩ = false ∧ ∃ u, w.cell? ⟨g, k * 4 + j, none⟩ = some u) ∧
   RangeR.Own ((((w.setCell ⟨g, k * 4, none⟩ (.int .i64 r.first)).setCell ⟨g, k * 4 + 1, none⟩ (.int .i64 r.last)).setCell ⟨g, k * 4 + 2, none⟩ (.int .i64 r.owner)).setCell ⟨g, k * 4 + 3, none⟩ (.int .i64 r.epoch)) B e (fun _ => False) v (l.set k r) := by
 have hlen := (List.getElem?_eq_some_iff.1 hk).1
 have key : ∀ j, j < 4 → ∃ g c, v = .slice (some ⟨g, 0, none⟩) l.length c ∧ w.frozen? ⟨g, k * 4 + j, none⟩ = false ∧ ∃ u, w.cell? ⟨g, k * 4 + j, none⟩ = some u := fun j hj => by
  obtain ⟨g, c, hv, _, _, _, _, hfz, hx⟩ := h.set_ (k := k) (j := j) (u := x.cells.getD j undef) (a' := x) hk hj (by
   match j, hj with
   | 0, _ => rfl
   | 1, _ => rfl
   | 2, _ => rfl
   | 3, _ => rfl) (fun cs hcs => by
   obtain ⟨rfl, hf⟩ := range_rep.1 hcs
   refine range_rep.2 ⟨?_, hf⟩
   match j, hj with
   | 0, _ => rfl
   | 1, _ => rfl
   | 2, _ => rfl
   | 3, _ => rfl)
  exact ⟨g, c, hv, hfz, hx⟩
 obtain ⟨g, c, hv, hB, hg, hn, h1, _⟩ := h.set_ (k := k) (j := 0) (u := .int .i64 r.first) (a' := { x with first := r.first }) hk (by decide) rfl (fun cs hcs => by
  obtain ⟨rfl, hq⟩ := range_rep.1 hcs
  exact range_rep.2 ⟨rfl, ⟨hf.1, hq.2⟩⟩)
 subst hv
 have inj : ∀ {g' c' n n' : Nat}, (Value.slice (some ⟨g, 0, none⟩) n c : Value) = .slice (some ⟨g', 0, none⟩) n' c' → g' = g := fun e => by
  injection e with e _ _
  injection e with e
  injection e with e _ _
  exact e.symm
 obtain ⟨g1, c1, hv1, _, _, _, h2, _⟩ := h1.set_ (k := k) (j := 1) (u := .int .i64 r.last) (a' := { x with first := r.first, last := r.last }) (List.getElem?_set_self hlen) (by decide) rfl (fun cs hcs => by
  obtain ⟨rfl, hq⟩ := range_rep.1 hcs
  exact range_rep.2 ⟨rfl, ⟨hf.1, hf.2.1, hq.2.2⟩⟩)
 rw [inj hv1, List.set_set] at h2
 obtain ⟨g2, c2, hv2, _, _, _, h3, _⟩ := h2.set_ (k := k) (j := 2) (u := .int .i64 r.owner) (a' := { r with epoch := x.epoch }) (List.getElem?_set_self hlen) (by decide) rfl (fun cs hcs => by
  obtain ⟨rfl, hq⟩ := range_rep.1 hcs
  exact range_rep.2 ⟨rfl, ⟨hf.1, hf.2.1, hf.2.2.1, hq.2.2.2⟩⟩)
 rw [inj hv2, List.set_set] at h3
 obtain ⟨g3, c3, hv3, _, _, _, h4, _⟩ := h3.set_ (k := k) (j := 3) (u := .int .i64 r.epoch) (a' := r) (List.getElem?_set_self hlen) (by decide) rfl (fun cs hcs => by
  obtain ⟨rfl, hq⟩ := range_rep.1 hcs
  exact range_rep.2 ⟨rfl, hf⟩)
 rw [inj hv3, List.set_set] at h4
 exact ⟨g, c, rfl, hB, hg, hn, fun j hj => by
  obtain ⟨g', c', hv', h5⟩ := key j hj
  rw [inj hv'] at h5
  exact h5, h4⟩
theorem setRing_any (A : Option Addr) (c : Nat) (l : List Range) (r : Range) (P : Nat → Prop) (w : World) (hr : RangeR.Row w P A l) (hl : l.length ≤ 1000000) (hf : r.fit) :
 Calls Tryz.prog 195 #[.slice A l.length c, .agg #[.int .i64 r.first, .int .i64 r.last, .int .i64 r.owner, .int .i64 r.epoch]] w fun e w' => GotSplit w.heap.size (setR l r) e w' ∧ Below w.heap.size w w' := by
 have HR := jh (hr.mono (Q := fun g => g < w.heap.size) fun g _ h => h); clear hr
 have hb0 := (jb w.heap.size w).al (.cells #[.int .i64 r.first, .int .i64 r.last, .int .i64 r.owner, .int .i64 r.epoch] 27)
 have B0 := Blk.new w 27 [.int .i64 r.first, .int .i64 r.last, .int .i64 r.owner, .int .i64 r.epoch]
 have HF := jh (show setR l r = (if soundR l = false then ([], 1) else if atR l r.first < 0 ∨ (l.getD (atR l r.first).toNat zeroRange).first ≠ r.first ∨ (l.getD (atR l r.first).toNat zeroRange).last ≠ r.last then ([], 4) else if ownedB r = false then ([], 1) else (l.set (atR l r.first).toNat r, 0)) from rfl)
 have hbd := atR_bd l r.first
 have HFT := jh hf
 clear hf
 go_enter Tryz.func195, Tryz.ntmps195
 go_upto_region 1 with fail
 generalize hw1 : (w.alloc (.cells #[.int .i64 r.first, .int .i64 r.last, .int .i64 r.owner, .int .i64 r.epoch] 27)) = w1 at *
 clear hw1
 have CA := at_any A c l r.first _ w1 (HR.out.ext hb0) hl
 have z0 : w1.cell? ⟨w.heap.size, 0, none⟩ = some (.int .i64 r.first) := B0.cell 0
 have HB := jh (ja hb0 B0)
 clear hb0 B0
 generalize atR l r.first = i at *
 go_wp2_with fail
 refine CA.mono ?_
 clear CA z0
 rintro e w2 ⟨rfl, hb2⟩
 have CS := soundR_any A c l _ w2 ((HR.out.ext HB.out.1).ext hb2) hl
 have HB2 := jh (ja (HB.out.1.tr hb2) (HB.out.2.ext hb2))
 clear hb2
 go_wp2_with fail
 refine CS.mono ?_
 clear CS
 rintro e w3 ⟨rfl, hb3⟩
 have HB3 := jh (ja (HB2.out.1.tr hb3) (HB2.out.2.ext hb3))
 clear hb3
 cases hs : soundR l
 ·have HS := jh hs
  clear hs
  go_wp2_with fail
  go_ret2
  rw [HF.out, if_pos HS.out]
  exact ⟨⟨_, rfl, Rep.Own.nil_⟩, HB3.out.1⟩
 have HF := jh (HF.out.trans (if_neg (by rw [hs]; simp)))
 clear hs
 by_cases hi : i < 0
 ·have HI := jh hi
  go_upto_region 4 with fail
  go_quiet (fail)
  go_wp2_with fail
  go_ret2
  rw [HF.out, if_pos (.inl HI.out)]
  exact ⟨⟨_, rfl, Rep.Own.nil_⟩, HB3.out.1.drewN _⟩
 have HI := jh hi
 have hi' : decide (i < 0) = false := jd hi
 obtain ⟨k, rfl⟩ : ∃ k : Nat, i = k := ⟨i.toNat, by omega⟩
 have hkl : k < l.length := by omega
 have hlk := jg hkl
 have hgd : l.getD ((k : Int)).toNat zeroRange = l[k] := by simp [hkl]
 rw [hgd] at HF
 generalize l[k] = x at *
 obtain ⟨bb, o, cs, rfl, hP, hbw, hrep, hcs⟩ := (HR.out.ext HB3.out.1).at_ hlk
 obtain ⟨rfl, hfx⟩ := range_rep.1 hrep
 have c0 := hcs 0 _ rfl; have c1 := hcs 1 _ rfl; have c2 := hcs 2 _ rfl; have c3 := hcs 3 _ rfl; simp only [RangeR_size, Nat.add_zero] at c0 c1 c2 c3
 have u0 : w3.cell? ⟨w.heap.size, 0, none⟩ = some (.int .i64 r.first) := HB3.out.2.cell 0
 have u1 : w3.cell? ⟨w.heap.size, 1, none⟩ = some (.int .i64 r.last) := HB3.out.2.cell 1
 have HLK := jh (ja hlk hfx)
 have hkl' : (k : Int) < l.length := by omega
 have hk0 : 0 ≤ ((k : Nat) : Int) := Int.natCast_nonneg _
 clear hgd hrep hcs hi hlk hfx hbd
 by_cases h1 : x.first = r.first
 rotate_left
 ·have H1 := jh h1
  have g1 : (x.first != r.first) = true := bne_iff_ne.2 h1
  clear h1
  go_upto_region 4 with fail
  go_quiet (fail)
  go_wp2_with fail
  go_ret2
  rw [HF.out, if_pos (.inr (.inl H1.out))]
  exact ⟨⟨_, rfl, Rep.Own.nil_⟩, HB3.out.1.drewN _⟩
 by_cases h2 : x.last = r.last
 rotate_left
 ·have H2 := jh h2
  have g1 : (x.first != r.first) = false := by simp [h1]
  have g2 : (x.last != r.last) = true := bne_iff_ne.2 h2
  clear h1 h2
  go_upto_region 4 with fail
  go_quiet (fail)
  go_wp2_with fail
  go_ret2
  rw [HF.out, if_pos (.inr (.inr H2.out))]
  exact ⟨⟨_, rfl, Rep.Own.nil_⟩, HB3.out.1.drewN _⟩
 have HF := jh (HF.out.trans (if_neg (by rintro (q | q | q); exact HI.out q; exact q h1; exact q h2)))
 rw [h1] at c0
 rw [h2] at c1
 have H12 := jh (ja h1 h2)
 clear h1 h2
 go_upto_region 4 with fail
 go_quiet (fail)
 clear c0 c1 c2 c3 u0 u1
 have hb4 : Below w3.heap.size w3 (w3.drewN nq) := (jb _ _).drewN _
 generalize hw4 : w3.drewN nq = w4 at *
 have HB4 := jh (ja (HB3.out.1.tr hb4) (HB3.out.2.ext hb4))
 clear hw4 hb4
 have u0 : w4.cell? ⟨w.heap.size, 0, none⟩ = some (.int .i64 r.first) := HB4.out.2.cell 0
 have u1 : w4.cell? ⟨w.heap.size, 1, none⟩ = some (.int .i64 r.last) := HB4.out.2.cell 1
 have u2 : w4.cell? ⟨w.heap.size, 2, none⟩ = some (.int .i64 r.owner) := HB4.out.2.cell 2
 have u3 : w4.cell? ⟨w.heap.size, 3, none⟩ = some (.int .i64 r.epoch) := HB4.out.2.cell 3
 have CO := owned_any r w4
 unfold Range.val at CO
 go_wp2_with fail
 refine CO.mono ?_
 clear CO u0 u1 u2 u3
 rintro e w5 ⟨rfl, hb5⟩
 have HB5 := jh (ja (HB4.out.1.tr hb5) (HB4.out.2.ext hb5))
 clear hb5
 cases ho : ownedB r
 ·have HO := jh ho
  clear ho
  go_wp2_with fail
  go_ret2
  rw [HF.out, if_pos HO.out]
  exact ⟨⟨_, rfl, Rep.Own.nil_⟩, HB5.out.1⟩
 have HF := jh (HF.out.trans (if_neg (by rw [ho]; simp)))
 clear ho
 have CC := clone_Range (some ⟨bb, o, none⟩) c l _ w5 (HR.out.ext HB5.out.1) (by omega)
 unfold GotOwn at CC
 go_wp2_with fail
 refine CC.mono ?_
 clear CC
 rintro e w6 ⟨⟨v6, rfl, ho6⟩, hb6⟩
 have hz5 := HB5.out.1.size
 have ho6 : RangeR.Own w6 w.heap.size 27 (fun _ => False) v6 l := (ho6.plain range_plain).base' hz5
 have H6 := jh (ja (HB5.out.1.tr hb6) (HB5.out.2.ext hb6))
 clear hb6
 obtain ⟨g6, c6, rfl, hB6, hg6, hn6, hcf, hown⟩ := own_range_set ho6 HLK.out.1 HLK.out.2 HFT.out
 obtain ⟨f0, v0, y0⟩ := hcf 0 (by omega)
 obtain ⟨f1, v1, y1⟩ := hcf 1 (by omega)
 obtain ⟨f2, v2, y2⟩ := hcf 2 (by omega)
 obtain ⟨f3, v3, y3⟩ := hcf 3 (by omega)
 simp only [Nat.add_zero] at f0 y0
 have u0 : w6.cell? ⟨w.heap.size, 0, none⟩ = some (.int .i64 r.first) := H6.out.2.cell 0
 have u1 : w6.cell? ⟨w.heap.size, 1, none⟩ = some (.int .i64 r.last) := H6.out.2.cell 1
 have u2 : w6.cell? ⟨w.heap.size, 2, none⟩ = some (.int .i64 r.owner) := H6.out.2.cell 2
 have u3 : w6.cell? ⟨w.heap.size, 3, none⟩ = some (.int .i64 r.epoch) := H6.out.2.cell 3
 have hs2 : (l.set k r).length = l.length := List.length_set
 have HO := jh (ja hown (ja hs2 hB6))
 clear ho6 hcf hown hs2
 go_wp2_with fail
 go_ret2
 rw [HF.out]
 refine ⟨⟨_, rfl, ?_⟩, ?_⟩
 ·have h1 := HO.out.1
  simpa using h1
 ·exact (((H6.out.1.st HO.out.2.2 _).st HO.out.2.2 _).st HO.out.2.2 _).st HO.out.2.2 _
end Go.Proofs.YtcmjgghkmdbphaaGreatDoor
namespace Go.Proofs.YtcmjgghkmdbphaaGreatDoor
open Go.RowKit
section
variable {P : Program} {w : World}
theorem setCells_blk {g e : TypeId} {cur : List Value} (hB : Blk w g e cur) (o : Nat) (vs : List Value) (hl : o + vs.length ≤ cur.length) (h1 : ∀ v ∈ vs, v.oneCell' = true) :
 Blk (w.setCells g o vs) g e (cur.take o ++ vs ++ cur.drop (o + vs.length)) ∧ Only (· = g) w (w.setCells g o vs) := by
 have ha := run_storeCells_cells (P := Tryz.prog) g o vs 0 w (fun j hj => by
  rw [hB.cell, jg (by omega)]; rfl) (fun j hj => hB.frozen _) h1
 have hb := run_storeCells_at Tryz.prog g o e vs 0 cur.toArray w hB (by simpa using hl) h1
 rw [ha] at hb
 simp only [Nat.add_zero] at hb
 have hw : w.setCells g o vs = w.setRow g (cur.take o ++ vs ++ cur.drop (o + vs.length)).toArray := by
  injection hb
 rw [hw]
 refine ⟨?_, ⟨rfl, rfl, rfl, by simp, fun k hk hn => setRow_other w g k _ hn⟩⟩
 have := setRow_heap w g cur.toArray (cur.take o ++ vs ++ cur.drop (o + vs.length)).toArray e (0, 0) hB
 unfold Blk
 simpa using this
theorem wpList_cut_append {ops : Array Oper} {rest : List Oper} {o : Oper} {a : Act} {Q' : Exit → Act → World → Prop} (hgd : o.guard = none) (s x : Operand) (t : TypeId)
 (ho : o.op = .call { callee := .builtin .append, args := #[s, x], argTypes := #[t, t] }) (e : TypeId) (i : TypeInfo) (ht : P.underlying t = some (.slice e)) (hi : P.info? e = some i)
 {g : Nat} {cur : List Value} (hB : Blk w g e cur) (k n c j b : Nat) (hs : a.eval s = .slice (some ⟨g, 0, none⟩) k c) (c' : Nat) (hx : a.eval x = .slice (some ⟨g, b, none⟩) n c') (hb : 0 < n → b = j * i.size) (hroom : k + n ≤ c) (hc : c * i.size ≤ cur.length) (hjl : (j + n) * i.size ≤ cur.length) (h1 : ∀ u ∈ (cur.drop (j * i.size)).take (n * i.size), u.oneCell' = true)
 (h : ∀ w', Blk w' g e (cur.take (k * i.size) ++ (cur.drop (j * i.size)).take (n * i.size) ++ cur.drop ((k + n) * i.size)) → Only (· = g) w w' → wpList P ops Q' rest (a.put o.dst (.slice (some ⟨g, 0, none⟩) (k + n) c)) w') : wpList P ops Q' (o :: rest) a w := by
 refine wpList_plain hgd fun K hK => ?_
 have hlen : ((cur.drop (j * i.size)).take (n * i.size)).length = n * i.size := by
  rw [List.length_take, List.length_drop]
  rw [Nat.add_mul] at hjl
  omega
 have hkc : (k + n) * i.size ≤ cur.length := Nat.le_trans (Nat.mul_le_mul_right _ hroom) hc
 rw [Nat.add_mul] at hkc
 have hsrc : Src P i.size t (.slice (some ⟨g, b, none⟩) n c') n ((cur.drop (j * i.size)).take (n * i.size)) w := Src.ofSlice w ht ⟨g, b, none⟩ n c' _ hlen (fun q u hu => by
  rw [add_off, hB.cell]
  have hq : q < n * i.size := by have := (List.getElem?_eq_some_iff.1 hu).1; omega
  have hn : 0 < n := by
   rcases Nat.eq_zero_or_pos n with h0 | h0
   ·rw [h0, Nat.zero_mul] at hq; omega
   ·exact h0
  rw [hb hn]
  rw [List.getElem?_take_of_lt hq, List.getElem?_drop] at hu
  exact hu) h1
 have hrun := run_append_room_src w t t o.type e i ht hi g 0 k c (.slice (some ⟨g, b, none⟩) n c') n _ hsrc hroom (fun q hq => by
  rw [hlen] at hq
  rw [hB.cell, jg (by omega)]; rfl) (fun q hq => hB.frozen _)
 obtain ⟨hB', hO'⟩ := setCells_blk hB (0 + k * i.size) ((cur.drop (j * i.size)).take (n * i.size)) (by rw [hlen]; omega) h1
 rw [hlen, Nat.zero_add, ← Nat.add_mul] at hB'
 rw [Nat.zero_add] at hO'
 have hh := h _ hB' hO'
 unfold Oper.wp
 simp [execOp, ho, resolve, invoke, builtin, hs, hx, hrun, Result.andThen]
 exact hK _ _ hh
theorem run_clear_tail (t ty e : TypeId) (z : Value) (ht : P.underlying t = some (.slice e)) (hv : ∀ w, (zeroValue e).run P w = .ok z w) (hz : ∀ v ∈ z.cells.toList, v.oneCell' = true)
 {g : Nat} {cur : List Value} (hB : Blk w g e cur) (off m c : Nat) (hm : 0 < m) (hl : off + m * z.cells.size ≤ cur.length) :
 ∃ w' zs, (Builtin.clear_ #[t] ty #[.slice (some ⟨g, off, none⟩) m c]).run P w = .ok (.tuple #[]) w' ∧ zs.length = m * z.cells.size ∧ Blk w' g e (cur.take off ++ zs ++ cur.drop (off + m * z.cells.size)) ∧ Only (· = g) w w' := by
 obtain ⟨m, rfl⟩ : ∃ k, m = k + 1 := ⟨m - 1, by omega⟩
 have hzl : (Builtin.zeroCells z.cells (m + 1)).toList.length = (m + 1) * z.cells.size := by rw [Array.length_toList, size_zeroCells]
 have hz1 : ∀ v ∈ (Builtin.zeroCells z.cells (m + 1)).toList, v.oneCell' = true := fun v hv => by
  unfold Builtin.zeroCells at hv
  rw [Array.toList_map, List.mem_map] at hv
  obtain ⟨i, hi, rfl⟩ := hv
  have hi' : i < (m + 1) * z.cells.size := by simpa using hi
  have hp : 0 < z.cells.size := by
   rcases Nat.eq_zero_or_pos z.cells.size with h0 | h0
   ·rw [h0, Nat.mul_zero] at hi'; omega
   ·exact h0
  have hm := Nat.mod_lt i hp
  rw [getElem!_pos z.cells _ hm]
  exact hz _ (by simp)
 have hst := run_storeCells_at P g off e (Builtin.zeroCells z.cells (m + 1)).toList 0 cur.toArray w hB (by rw [hzl]; simpa using hl) hz1
 simp only [Nat.add_zero, hzl] at hst
 refine ⟨w.setRow g (cur.take off ++ (Builtin.zeroCells z.cells (m + 1)).toList ++ cur.drop (off + (m + 1) * z.cells.size)).toArray, (Builtin.zeroCells z.cells (m + 1)).toList, by simp [Builtin.clear_, run_underlying ht, hv, hst], hzl, ?_, ⟨rfl, rfl, rfl, by simp, fun k hk hn => setRow_other w g k _ hn⟩⟩
 have := setRow_heap w g cur.toArray (cur.take off ++ (Builtin.zeroCells z.cells (m + 1)).toList ++ cur.drop (off + (m + 1) * z.cells.size)).toArray e (0, 0) hB
 unfold Blk
 simpa using this
end
end Go.Proofs.YtcmjgghkmdbphaaGreatDoor
namespace Go.Proofs.YtcmjgghkmdbphaaGreatDoor
open Go.RowKit
theorem flatten_split {s : Nat} : ∀ {css : List (List Value)}, (∀ cs ∈ css, cs.length = s) → ∀ k, css.flatten.take (k * s) = (css.take k).flatten ∧ css.flatten.drop (k * s) = (css.drop k).flatten
 | [], _, k => by simp
 | c :: r, h, 0 => by simp
 | c :: r, h, k + 1 => by
   have hc := h c (by simp)
   obtain ⟨h1, h2⟩ := flatten_split (css := r) (fun cs hcs => h cs (by simp [hcs])) k
   have e : (k + 1) * s = c.length + k * s := by rw [hc, Nat.succ_mul]; omega
   rw [List.flatten_cons, e, List.take_length_add_append, List.drop_length_add_append, h1, h2]
   simp
theorem zero_rec (w : World) : (zeroValue 46).run Tryz.prog w = .ok (.agg (Rec.cells ⟨0, 0, 0, false, ⟨0, 0, 0⟩, ⟨0, 0, 0⟩, [], ⟨⟨#[]⟩, []⟩, ⟨0, 0, 0, 0⟩, []⟩ none 0 none 0 none 0).toArray) w := by kernel_rfl
theorem flat_erase {α : Type} {R : Rep α} {w : World} {P : Nat → Prop} {xs : List Value} {l : List α} (h : R.flat w P xs l) {i : Nat} (_hi : i < l.length) : R.flat w P (xs.take (i * R.size) ++ xs.drop ((i + 1) * R.size)) (l.eraseIdx i) := by
 obtain ⟨css, rfl, hc, hr⟩ := h
 have hs : ∀ cs ∈ css, cs.length = R.size := fun cs hcs => by
  obtain ⟨k, hk, rfl⟩ := List.getElem_of_mem hcs
  exact R.len (hr k _ _ (jg hk) (jg (by omega)))
 refine ⟨css.eraseIdx i, ?_, by rw [List.length_eraseIdx, List.length_eraseIdx, hc], fun k cs a hk ha => ?_⟩
 ·rw [(flatten_split hs i).1, (flatten_split hs (i + 1)).2, ← List.flatten_append, List.eraseIdx_eq_take_drop_succ]
 ·rw [List.getElem?_eraseIdx] at hk ha
  by_cases hki : k < i
  ·rw [if_pos hki] at hk ha; exact hr k cs a hk ha
  ·rw [if_neg hki] at hk ha; exact hr (k + 1) cs a hk ha
def delC (cl : List Value) (i n : Nat) : List Value := cl.take (i * 18) ++ (cl.drop ((i + 1) * 18)).take (n * 18) ++ cl.drop ((i + n) * 18)
theorem del_cells {cl : List Value} {cap i n : Nat} {z : List Value} (hcl : cl.length = cap * 18) (hn : i + 1 + n ≤ cap) (hz : z.length = 18) :
 (delC cl i n).length = cap * 18 ∧ ((delC cl i n).take ((i + n) * 18) ++ z ++ (delC cl i n).drop ((i + n) * 18 + 18)).length = cap * 18 ∧
 ((delC cl i n).take ((i + n) * 18) ++ z ++ (delC cl i n).drop ((i + n) * 18 + 18)).take ((i + n) * 18) = (cl.take ((i + 1 + n) * 18)).take (i * 18) ++ (cl.take ((i + 1 + n) * 18)).drop ((i + 1) * 18) := by
 have h1 : (delC cl i n).length = cap * 18 := by
  unfold delC
  simp only [List.length_append, List.length_take, List.length_drop, hcl]
  omega
 have h2 : ((delC cl i n).take ((i + n) * 18)).length = (i + n) * 18 := by rw [List.length_take, h1]; omega
 refine ⟨h1, ?_, ?_⟩
 ·simp only [List.length_append, h2, hz, List.length_drop, h1]
  omega
 ·rw [List.append_assoc, List.take_append_of_le_length (by omega), List.take_take, Nat.min_self]
  unfold delC
  have e1 : (cl.take (i * 18) ++ (cl.drop ((i + 1) * 18)).take (n * 18)).length = (i + n) * 18 := by
   simp only [List.length_append, List.length_take, List.length_drop, hcl]
   omega
  rw [List.take_append_of_le_length (by omega), List.take_of_length_le (by omega), List.take_take, List.drop_take, Nat.min_eq_left (by omega)]
  congr 2
  omega
def DelOut (w : World) (v : Value) (B : Nat) (S : Nat → Prop) (l : List Rec) (e : Ending) (w' : World) : Prop := ∃ v', e = .returned v' ∧ RecR.Own w' B 46 S v' l ∧ Only (fun q => v.ownBlock = some q) w w'
theorem delete_any (v : Value) (l : List Rec) (i : Nat) (B : Nat) (S : Nat → Prop) (w : World) (h : RecR.Own w B 46 S v l) (hi : i < l.length) (hl : l.length ≤ 1000000) :
 Calls Tryz.prog 196 #[v, .int .i64 i, .int .i64 ((i : Int) + 1)] w (DelOut w v B S (l.eraseIdx i)) := by
 obtain ⟨xs, ⟨hxl, hd⟩, hflat⟩ := h
 rcases hd with ⟨h0, _⟩ | ⟨g, cap, cur, rfl, hB, hg, hn, hc, hs, ht⟩
 ·omega
 have hBk : Blk w g 46 cur.toList := by unfold Blk; simpa using hg
 have hcl : cur.toList.length = cap * 18 := by rw [Array.length_toList, hs]; rfl
 have HX := jh (ja hxl (ja ht (ja hflat hB)))
 have hc63 : cap ≤ 9223372036854775807 := by unfold maxLen at hc; omega
 generalize cur.toList = cl at *
 clear hg hs ht hxl hflat hB hc
 have hne : ((i : Int) == (i : Int) + 1) = false := by rw [beq_eq_false_iff_ne]; omega
 have hi1 : (i : Int) + 1 ≤ l.length := by omega
 have hi0 : 0 ≤ (i : Int) := Int.natCast_nonneg _
 have hn' : (l.length : Int) ≤ cap := by omega
 have hcap' : (cap : Int) ≤ 9223372036854775807 := by omega
 go_enter Tryz.func196, Tryz.ntmps196
 go_upto_region 5 with fail
 haveI : Nonempty (Wd (fun _ : World => True)) := ⟨⟨w, trivial⟩⟩
 have hib : i + 1 ≤ l.length := by omega
 have HCUT := jh (show ∀ n, i + 1 + n = l.length → ∀ u ∈ (cl.drop ((i + 1) * 18)).take (n * 18), u.oneCell' = true from fun n hn1 u hu => by
  refine HX.out.2.2.1.ones u ?_
  rw [← HX.out.2.1]
  rw [List.take_drop] at hu
  have e : (i + 1) * 18 + n * 18 = l.length * RecR.size := by rw [← Nat.add_mul, hn1]; rfl
  rw [e] at hu
  exact List.mem_of_mem_drop hu)
 have HC := jh (show ∀ n, i + 1 + n = l.length → ∀ z : List Value, z.length = 18 → _ from fun n hn1 z hz => del_cells (cl := cl) (cap := cap) (i := i) (n := n) (z := z) hcl (by omega) hz)
 have HE := jh (flat_erase HX.out.2.2.1 hi)
 by_cases hck : cap = i + 1
 case pos =>
  subst hck
  refine wp_region_mix (.seg [0, 1, 2, 3, 4, 5] 6 (.leaf [7])) (fun w' => ∃ d : Wd (fun _ : World => True), w' = d.w) (by kernel_rfl) (by kernel_rfl) (fun _ _ d _ _ h => by cases d <;> exact h) (ClsW.mk (D := fun _ => True) trivial) ?_
  unfold wpMix; simp only [pick, j1, j2, j3, j4]
  (repeat (show wpQuiet _ _ _ _ (_ :: _) _; go_big_quiet_step (fail))); refine qn ?_
  obtain ⟨i0, e1, e2, e3, e4⟩ := info_parts rec_info
  refine wpList_cut_append rfl (.tmp 22) (.tmp 25) _ rfl 46 i0 Tryz.underlying22 e1 hBk.drew i 0 _ (i + 1) _ rfl _ rfl (fun hp => by first | omega | rw [e3]) (by omega) (by rw [e3]; omega) (by rw [e3]; omega) (by rw [e3]; exact HCUT.out 0 (by omega)) ?_
  intro w2 hB2 hO2
  rw [e3] at hB2
  have hO2 : Only (fun q => q = g) w w2 := (jo (jb _ w).drew).tr hO2
  go_simp
  dsimp only [wpList, SegQ]
  refine ⟨fun w' => ∃ d : Wd (fun _ : World => True), w' = d.w, ClsW.mk (D := fun _ => True) trivial, fun _ h => h, ?_⟩
  unfold wpMix; simp only [pick, j1, j2, j3, j4]
  (repeat (show wpQuiet _ _ _ _ (_ :: _) _; go_big_quiet_step (fail))); refine qn ?_
  have hlast : i + 0 + 1 = l.length := by omega
  have HL := jh (ja hB2 hO2)
  clear e1 e2 e3 e4
  obtain ⟨hC1, hC2, hC3⟩ := HC.out 0 (by omega) (List.replicate 18 (.int .i64 0)) rfl
  obtain ⟨w3, zs, hcr, hz, hB3, hO3⟩ := run_clear_tail (P := Tryz.prog) 22 0 46 _ Tryz.underlying22 zero_rec (by decide) hB2 (i * 18) (l.length - i) (l.length - i) (by omega) (by have h1 := hC1; unfold delC at h1; rw [h1]; show _ + _ * 18 ≤ _; omega)
  have HZ := jh (ja hz (ja hB3 hO3))
  clear hz hB3 hO3 hC1 hC2 hC3 hB2 hO2
  go_wp2_with fail
  go_ret
  obtain ⟨hz, hB3, hO3⟩ := HZ.out
  have hO3 := HL.out.2.tr hO3
  have e1 : l.length - i = 1 := by omega
  rw [e1] at hz hB3
  have hz18 : zs.length = 18 := hz
  obtain ⟨q1, q2, q3⟩ := HC.out 0 (by omega) zs hz18
  have hll : (l.eraseIdx i).length = i + 0 := by rw [List.length_eraseIdx, if_pos hi]; omega
  have hxs : cl.take ((i + 1 + 0) * 18) = xs := by rw [← HX.out.2.1, show i + 1 + 0 = l.length from by omega]; rfl
  rw [hxs] at q3
  have hB3' : Blk w3 g 46 ((delC cl i 0).take ((i + 0) * 18) ++ zs ++ (delC cl i 0).drop ((i + 0) * 18 + 18)) := hB3
  have O := own_of_blk (R := RecR) (base := B) (S := S) (cap := i + 1) (l := l.eraseIdx i) hB3' q2 (by rw [hll]; omega) (by omega) HX.out.2.2.2 (xs := xs.take (i * 18) ++ xs.drop ((i + 1) * 18)) (by rw [hll]; exact q3)
   ((HE.out.same (Same.of_only hO3 fun k hk e => hk.2 (by rw [e]; rfl))).mono fun k hk _ => ⟨hk.1, fun e => hk.2 (by rw [e]; rfl)⟩)
  rw [hll] at O
  exact ⟨_, rfl, O, hO3.mono fun k e => by rw [e]; rfl⟩
 case neg =>
  skip
  refine wp_region_mix (.seg [0, 1, 2, 3, 4, 5] 6 (.leaf [7])) (fun w' => ∃ d : Wd (fun _ : World => True), w' = d.w) (by kernel_rfl) (by kernel_rfl) (fun _ _ d _ _ h => by cases d <;> exact h) (ClsW.mk (D := fun _ => True) trivial) ?_
  unfold wpMix; simp only [pick, j1, j2, j3, j4]
  (repeat (show wpQuiet _ _ _ _ (_ :: _) _; go_big_quiet_step (fail))); refine qn ?_
  obtain ⟨i0, e1, e2, e3, e4⟩ := info_parts rec_info
  refine wpList_cut_append rfl (.tmp 22) (.tmp 25) _ rfl 46 i0 Tryz.underlying22 e1 hBk.drew i (l.length - (i + 1)) _ (i + 1) _ rfl _ rfl (fun hp => by first | omega | rw [e3]) (by omega) (by rw [e3]; omega) (by rw [e3]; omega) (by rw [e3]; exact HCUT.out (l.length - (i + 1)) (by omega)) ?_
  intro w2 hB2 hO2
  rw [e3] at hB2
  have hO2 : Only (fun q => q = g) w w2 := (jo (jb _ w).drew).tr hO2
  go_simp
  dsimp only [wpList, SegQ]
  refine ⟨fun w' => ∃ d : Wd (fun _ : World => True), w' = d.w, ClsW.mk (D := fun _ => True) trivial, fun _ h => h, ?_⟩
  unfold wpMix; simp only [pick, j1, j2, j3, j4]
  (repeat (show wpQuiet _ _ _ _ (_ :: _) _; go_big_quiet_step (fail))); refine qn ?_
  have hlast : i + (l.length - (i + 1)) + 1 = l.length := by omega
  have HL := jh (ja hB2 hO2)
  clear e1 e2 e3 e4
  obtain ⟨hC1, hC2, hC3⟩ := HC.out (l.length - (i + 1)) (by omega) (List.replicate 18 (.int .i64 0)) rfl
  obtain ⟨w3, zs, hcr, hz, hB3, hO3⟩ := run_clear_tail (P := Tryz.prog) 22 0 46 _ Tryz.underlying22 zero_rec (by decide) hB2 ((i + (l.length - (i + 1))) * 18) (l.length - (i + (l.length - (i + 1)))) (cap - (i + (l.length - (i + 1)))) (by omega) (by have h1 := hC1; unfold delC at h1; rw [h1]; show _ + _ * 18 ≤ _; omega)
  have HZ := jh (ja hz (ja hB3 hO3))
  clear hz hB3 hO3 hC1 hC2 hC3 hB2 hO2
  go_wp2_with fail
  go_ret
  obtain ⟨hz, hB3, hO3⟩ := HZ.out
  have hO3 := HL.out.2.tr hO3
  have e1 : l.length - (i + (l.length - (i + 1))) = 1 := by omega
  rw [e1] at hz hB3
  have hz18 : zs.length = 18 := hz
  obtain ⟨q1, q2, q3⟩ := HC.out (l.length - (i + 1)) (by omega) zs hz18
  have hll : (l.eraseIdx i).length = i + (l.length - (i + 1)) := by rw [List.length_eraseIdx, if_pos hi]; omega
  have hxs : cl.take ((i + 1 + (l.length - (i + 1))) * 18) = xs := by rw [← HX.out.2.1, show i + 1 + (l.length - (i + 1)) = l.length from by omega]; rfl
  rw [hxs] at q3
  have hB3' : Blk w3 g 46 ((delC cl i (l.length - (i + 1))).take ((i + (l.length - (i + 1))) * 18) ++ zs ++ (delC cl i (l.length - (i + 1))).drop ((i + (l.length - (i + 1))) * 18 + 18)) := hB3
  have O := own_of_blk (R := RecR) (base := B) (S := S) (cap := cap) (l := l.eraseIdx i) hB3' q2 (by rw [hll]; omega) (by omega) HX.out.2.2.2 (xs := xs.take (i * 18) ++ xs.drop ((i + 1) * 18)) (by rw [hll]; exact q3)
   ((HE.out.same (Same.of_only hO3 fun k hk e => hk.2 (by rw [e]; rfl))).mono fun k hk _ => ⟨hk.1, fun e => hk.2 (by rw [e]; rfl)⟩)
  rw [hll] at O
  exact ⟨_, rfl, O, hO3.mono fun k e => by rw [e]; rfl⟩
end Go.Proofs.YtcmjgghkmdbphaaGreatDoor
namespace Go.Proofs.YtcmjgghkmdbphaaGreatDoor
open Go.RowKit
theorem recs_at {w : World} {P : Nat → Prop} {A : Option Addr} {l : List Rec} (h : RecR.Row w P A l) {k : Nat} {r : Rec} (hk : l[k]? = some r) :
 ∃ b o nA nc pA pc sA sc, A = some ⟨b, o, none⟩ ∧ b < w.heap.size ∧ RecAt w P r nA nc pA pc sA sc ∧ ∀ j u, (r.cells nA nc pA pc sA sc)[j]? = some u → w.cell? ⟨b, o + k * 18 + j, none⟩ = some u := by
 obtain ⟨b, o, cs, hA, _, hb, hrep, hcs⟩ := h.at_ hk
 obtain ⟨nA, nc, pA, pc, sA, sc, rfl, hr⟩ := rec_rep.1 hrep
 exact ⟨b, o, nA, nc, pA, pc, sA, sc, hA, hb, hr, hcs⟩
end Go.Proofs.YtcmjgghkmdbphaaGreatDoor
