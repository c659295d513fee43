/- part's law: awake. The law file's own small: are records looked at? PartDrift: what is computed. A struct out of a row, by an operation with a guard that holds. PartDrift: the law's walk. PartOnce: what is computed. -/
import Derived.Test.YtcmjgghkmdbphaaGreatDoorO22
import Derived.Test.YtcmjgghkmdbphaaGreatDoorO04
import Derived.Test.YtcmjgghkmdbphaaGreatDoorO07
import Derived.Test.YtcmjgghkmdbphaaGreatDoorO20
import Derived.Test.YtcmjgghkmdbphaaGreatDoorO19
set_option maxRecDepth 20000
set_option maxHeartbeats 25600000
namespace Go.Proofs.YtcmjgghkmdbphaaGreatDoor
open Go.RowKit
def frS : St := ⟨1, 2, 0, 0, (newR 2).1, [], [], [], [], [], []⟩
theorem fr_new : newS 1 2 = some frS := by kernel_rfl
theorem fr_fit : Fit frS := (inv_new fr_new).fit (by decide)
def frB (n : Str) : Batch := ⟨⟨#[]⟩, [⟨n, -1, [⟨#[120]⟩]⟩]⟩
def tx1 : Tx := ⟨2, 1, 1⟩
theorem tx1_fit : tx1.fit := ⟨i64_small 2 (by omega), i64_small 1 (by omega), i64_small 1 (by omega)⟩
theorem fr_prep : prepP frS ck1 tx1 (frB ⟨#[98]⟩) zeroStamp = (ck1, noP 8) := by kernel_rfl
theorem fr_of : ofR frS.ring ⟨#[98]⟩ = (⟨2147483648, 4294967295, 2, 1⟩, true) := by kernel_rfl
theorem Rep.Row.blk {α : Type} {R : Rep α} {w : World} {g : Nat} {t : TypeId} {cs : List Value} {P : Nat → Prop} {a : α} (h : Blk w g t cs) (hr : R.rep w P cs a) : R.Row w (fun k => P k ∨ k = g) (some ⟨g, 0, none⟩) [a] := fun _ => by
 refine ⟨g, 0, rfl, .inr rfl, h.lt, fun i b hi => ?_⟩
 match i, hi with
 | 0, hi =>
   simp at hi; subst hi
   exact ⟨cs, R.mono hr fun k hk _ => .inl hk, fun j u hu => by rw [h.cell]; simpa using hu⟩
theorem put_row {w : World} {xb pb : Nat} {n : Str} (hn : sfit n) (hx : Blk w xb 9 [.string ⟨#[120]⟩]) (hp : Blk w pb 69 [.string n, .int .i64 (-1), .slice (some ⟨xb, 0, none⟩) 1 1]) :
 PutR.Row w (fun k => k = xb ∨ k = pb) (some ⟨pb, 0, none⟩) (frB n).puts := by
 have r1 : StrR.Row w (fun k => False ∨ k = xb) (some ⟨xb, 0, none⟩) [⟨#[120]⟩] := Rep.Row.blk hx ⟨rfl, show sfit ⟨#[120]⟩ from (by show (1 : Nat) ≤ _; omega)⟩
 have r2 := Rep.Row.blk (R := PutR) (a := ⟨n, -1, [⟨#[120]⟩]⟩) hp (put_rep.2 ⟨some ⟨xb, 0, none⟩, 1, rfl, hn, i64_small (-1) (by omega), Nat.le_refl 1, (by decide : (1 : Nat) ≤ 9223372036854775807), r1⟩)
 exact r2.mono fun k h _ => by rcases h with (h | h) | h <;> first | exact h.elim | exact .inl h | exact .inr h
theorem fr_call (W : World) (P : Nat → Prop) (g gc xb pb : Nat) (hst : StAt W P g frS) (hc : CkAt W gc ck1) (hg : g ≠ gc) (hP : ¬ P gc) (h2 : 2 ≤ gc) (hx : Blk W xb 9 [.string ⟨#[120]⟩]) (hp : Blk W pb 69 [.string ⟨#[98]⟩, .int .i64 (-1), .slice (some ⟨xb, 0, none⟩) 1 1])
 (h1 : gc ≠ xb) (h3 : gc ≠ pb) (hT : Tabs W) :
 Calls Tryz.prog 59 #[ptrV g, .pointer (some ⟨gc, 0, none⟩), .agg #[.int .i64 2, .int .i64 1, .int .i64 1, .string ⟨#[]⟩, .slice (some ⟨pb, 0, none⟩) 1 1, .int .i64 0, .int .i64 0, .int .i64 0]] W fun e w' => (∃ rA rc fA fc, e = .returned (.agg (planV (.slice rA 0 rc) tx1 8 zeroStamp (.slice fA 0 fc) false false).toArray)) ∧ Only (· = gc) W w' := by
 refine (partPrepare_any g gc frS ck1 tx1 (frB ⟨#[98]⟩) zeroStamp (some ⟨pb, 0, none⟩) 1 P (fun k => k = xb ∨ k = pb) W hst fr_fit (by decide) (fun p hp => by cases hp) hc ck1_ok hg hP (fun h => by rcases h with h | h <;> omega) h2
  (put_row (by show (1 : Nat) ≤ _; omega) hx hp) ⟨Nat.le_refl _, by decide⟩ ⟨by decide, by show (0 : Nat) ≤ _; omega, fun p hp => by rcases List.mem_singleton.1 hp with rfl; decide⟩ tx1_fit hT).mono ?_
 rw [fr_prep]
 rintro e w' ⟨⟨rA, rc, fA, fc, rfl, _⟩, _, hO⟩
 exact ⟨⟨rA, rc, fA, fc, rfl⟩, hO⟩
theorem awake21_any (w : World) (hT : Tabs w) (h2 : 2 ≤ w.heap.size) : Calls Tryz.prog 56 #[] w fun e w' => e = .returned (.bool true) ∧ Below w.heap.size w w' := by
 have C1 := fresh21_any w frS fr_new
 unfold GotFresh at C1
 have HT := jh hT
 clear hT
 go_enter Tryz.func56, Tryz.ntmps56
 go_wp2_with fail
 refine C1.mono ?_
 clear C1
 rintro e w1 ⟨⟨wb, g, gc, rfl, hfr⟩, hb1⟩
 have hz1 := hb1.size
 have e0 : w1.cell? ⟨wb, 0, none⟩ = some (.pointer (some ⟨g, 0, none⟩)) := hfr.c0
 have e1 : w1.cell? ⟨wb, 1, none⟩ = some (.pointer (some ⟨gc, 0, none⟩)) := hfr.c1
 have hwbl := lt_of_cell e0
 have hwb := hfr.hwb
 have hg := hfr.hg
 have hgc := hfr.hgc
 have hne := hfr.ne
 have hfr' := hfr.wne
 have hgl := hfr.st.lt
 have hcl := hfr.ck.lt
 have H1 := jh (ja hfr hb1)
 clear hfr hb1
 have hwne := hfr'
 have y0 := OnlyD.cell (F := (· = gc)) e0 hwne
 have y1 := OnlyD.cell (F := (· = gc)) e1 hwne
 have HW := jh (fun W (hW : Below w1.heap.size w1 W) => (show StAt W (fun k => (w.heap.size ≤ k ∧ k ≠ g) ∧ k < gc) g frS ∧ CkAt W gc ck1 ∧ Tabs W from ⟨by obtain ⟨v, a, b⟩ := H1.out.1.st; exact ⟨v, a.ext hW, b.same (js hW)⟩, Blk.ext H1.out.1.ck hW, (HT.out.below H1.out.2).below hW⟩))
 go_upto_region 4 with fail
 haveI : Nonempty (Wd (Only (fun k => k = gc) w1)) := ⟨⟨w1, Only.refl _ _⟩⟩
 go_cut [3] from 12 to 26 (fun v wx => ∃ pb rA rc fA fc, v = .pointer (some ⟨pb, 0, none⟩) ∧ Blk wx pb 113 (planV (.slice rA 0 rc) tx1 8 zeroStamp (.slice fA 0 fc) false false) ∧ Only (fun k => k = gc) w1 wx)
 case first =>
  refine wp_region_mix (.fork [0, 1, 2, 3, 4, 5, 6, 7, 8] 9 (.fork [10] 11 (.fork [12, 13] 14 (.seg [] 15 (.seg [] 16 (.leaf []))) 15 (.seg [] 14 (.seg [] 16 (.leaf [])))) 15 (.seg [] 11 (.seg [12, 13] 14 (.seg [] 16 (.leaf []))))) 15 (.seg [] 9 (.seg [10] 11 (.seg [12, 13] 14 (.seg [] 16 (.leaf [])))))) (fun w' => ∃ d : Wd (Only (fun k => k = gc) w1), w' = d.w) (by kernel_rfl) (by kernel_rfl) (fun _ _ d _ _ h => by cases d <;> exact h) (ClsW.mk Only.drew) ?_
  unfold wpMix; simp only [pick, j1, j2, j3, j4]
  (repeat (show wpQuiet _ _ _ _ (_ :: _) _; go_big_quiet_step (fail))); refine qn ?_
  constructor
  ·have hbA0 : Below w1.heap.size w1 w1 := jb _ _
   go_wp2_with fail
   have hb1 : Below w1.heap.size w1 ((w1.alloc (.cells #[.string ⟨#[120]⟩] 9)).drew) := by repeat (with_reducible first | assumption | exact jb _ _ | refine Below.al ?_ _ | refine Below.drew ?_ | apply Below.st1)
   have fS1 : Blk ((w1.alloc (.cells #[.string ⟨#[120]⟩] 9)).drew) w1.heap.size 9 [.string ⟨#[120]⟩] := Blk.new w1 9 [.string ⟨#[120]⟩]
   have hbA1 := hbA0.tr hb1
   have hz1 : w1.heap.size < ((w1.alloc (.cells #[.string ⟨#[120]⟩] 9)).drew).heap.size := fS1.lt
   generalize (w1.alloc (.cells #[.string ⟨#[120]⟩] 9)).drew = v1 at *
   (refine segw (D := Only (fun k => k = gc) w1) ((jo hbA1)) ?_; unfold wpMix; simp only [pick, j1, j2, j3, j4]; (repeat (show wpQuiet _ _ _ _ (_ :: _) _; go_big_quiet_step (fail))); refine qn ?_)
   constructor
   ·go_wp2_with fail
    have hb2 : Below v1.heap.size v1 (v1.alloc (.cells #[.string ⟨#[98]⟩, .int .i64 (-1), .slice (some ⟨w1.heap.size, 0, none⟩) 1 1] 69)) := by repeat (with_reducible first | assumption | exact jb _ _ | refine Below.al ?_ _ | refine Below.drew ?_ | apply Below.st1)
    have fP2 : Blk (v1.alloc (.cells #[.string ⟨#[98]⟩, .int .i64 (-1), .slice (some ⟨w1.heap.size, 0, none⟩) 1 1] 69)) v1.heap.size 69 [.string ⟨#[98]⟩, .int .i64 (-1), .slice (some ⟨w1.heap.size, 0, none⟩) 1 1] := Blk.new v1 69 [.string ⟨#[98]⟩, .int .i64 (-1), .slice (some ⟨w1.heap.size, 0, none⟩) 1 1]
    have fS2 := fS1.ext hb2
    have hbA2 := hbA1.tr hb2
    have hz2 : v1.heap.size < (v1.alloc (.cells #[.string ⟨#[98]⟩, .int .i64 (-1), .slice (some ⟨w1.heap.size, 0, none⟩) 1 1] 69)).heap.size := fP2.lt
    generalize v1.alloc (.cells #[.string ⟨#[98]⟩, .int .i64 (-1), .slice (some ⟨w1.heap.size, 0, none⟩) 1 1] 69) = v2 at *
    (refine segw (D := Only (fun k => k = gc) w1) ((jo hbA2)) ?_; unfold wpMix; simp only [pick, j1, j2, j3, j4]; (repeat (show wpQuiet _ _ _ _ (_ :: _) _; go_big_quiet_step (fail))); refine qn ?_)
    constructor
    ·go_wp2_with fail
     have CP := fr_call v2 _ g gc w1.heap.size v1.heap.size (HW.out _ hbA2).1 (HW.out _ hbA2).2.1 hne (fun h => by have := h.2; omega) (by omega) fS2 fP2 (by omega) (by omega) (HW.out _ hbA2).2.2
     unfold ptrV at CP
     refine CP.mono ?_
     clear CP
     rintro e v3 ⟨⟨rA, rc, fA, fc, rfl⟩, hOc⟩
     have hO3 := (jo (F := fun k => k = gc) hbA2).tr hOc
     have hz3 := hOc.size
     clear hOc
     go_wp2_with fail
     (refine segw (D := Only (fun k => k = gc) w1) (hO3) ?_; unfold wpMix; simp only [pick, j1, j2, j3, j4]; (repeat (show wpQuiet _ _ _ _ (_ :: _) _; go_big_quiet_step (fail))); refine qn ?_)
     go_wp2_with fail
     have hb4 : Below v3.heap.size v3 (v3.alloc (.cells #[.slice none 0 0, .int .i64 0, .int .i64 0, .int .i64 0, .int .i64 0, .int .i64 0, .int .i64 0, .int .i64 0, .slice none 0 0, .bool false, .bool false] 113)) := by repeat (with_reducible first | assumption | exact jb _ _ | refine Below.al ?_ _ | refine Below.drew ?_ | apply Below.st1)
     have fZ4 : Blk (v3.alloc (.cells #[.slice none 0 0, .int .i64 0, .int .i64 0, .int .i64 0, .int .i64 0, .int .i64 0, .int .i64 0, .int .i64 0, .slice none 0 0, .bool false, .bool false] 113)) v3.heap.size 113 [.slice none 0 0, .int .i64 0, .int .i64 0, .int .i64 0, .int .i64 0, .int .i64 0, .int .i64 0, .int .i64 0, .slice none 0 0, .bool false, .bool false] := Blk.new v3 113 [.slice none 0 0, .int .i64 0, .int .i64 0, .int .i64 0, .int .i64 0, .int .i64 0, .int .i64 0, .int .i64 0, .slice none 0 0, .bool false, .bool false]
     have hO4 := hO3.tr (jo (F := fun k => k = gc) hb4)
     have hz4 : v3.heap.size < (v3.alloc (.cells #[.slice none 0 0, .int .i64 0, .int .i64 0, .int .i64 0, .int .i64 0, .int .i64 0, .int .i64 0, .int .i64 0, .slice none 0 0, .bool false, .bool false] 113)).heap.size := fZ4.lt
     generalize v3.alloc (.cells #[.slice none 0 0, .int .i64 0, .int .i64 0, .int .i64 0, .int .i64 0, .int .i64 0, .int .i64 0, .int .i64 0, .slice none 0 0, .bool false, .bool false] 113) = v4 at *
     (refine segw (D := Only (fun k => k = gc) w1) (hO4) ?_; unfold wpMix; simp only [pick, j1, j2, j3, j4]; (repeat (show wpQuiet _ _ _ _ (_ :: _) _; go_big_quiet_step (fail))); refine qn ?_)
     refine wpList_store_blk (cs := planV (.slice rA 0 rc) tx1 8 zeroStamp (.slice fA 0 fc) false false) rfl rfl rfl rfl rfl fZ4 (by kernel_rfl) rfl (by simp [planV, Value.oneCell']) ?_
     intro v9 hB9 hO9 hz9
     go_simp
     have hO5 := hO4.trans hO9 (fun q hq e => by have e' : q = v3.heap.size := e; omega)
     (refine segw (D := Only (fun k => k = gc) w1) (hO5) ?_; unfold wpMix; simp only [pick, List.filterMap_nil]; (repeat (show wpQuiet _ _ _ _ (_ :: _) _; go_big_quiet_step (fail))); refine qn ?_)
     go_wp2_with fail
     go_meet
     exact ⟨_, rA, rc, fA, fc, rfl, hB9, hO5⟩
    ·go_wp2_with fail
     have hb3 : Below v2.heap.size v2 (v2.alloc (.cells #[.slice none 0 0, .int .i64 0, .int .i64 0, .int .i64 0, .int .i64 0, .int .i64 0, .int .i64 0, .int .i64 0, .slice none 0 0, .bool false, .bool false] 113)) := by repeat (with_reducible first | assumption | exact jb _ _ | refine Below.al ?_ _ | refine Below.drew ?_ | apply Below.st1)
     have fZ3 : Blk (v2.alloc (.cells #[.slice none 0 0, .int .i64 0, .int .i64 0, .int .i64 0, .int .i64 0, .int .i64 0, .int .i64 0, .int .i64 0, .slice none 0 0, .bool false, .bool false] 113)) v2.heap.size 113 [.slice none 0 0, .int .i64 0, .int .i64 0, .int .i64 0, .int .i64 0, .int .i64 0, .int .i64 0, .int .i64 0, .slice none 0 0, .bool false, .bool false] := Blk.new v2 113 [.slice none 0 0, .int .i64 0, .int .i64 0, .int .i64 0, .int .i64 0, .int .i64 0, .int .i64 0, .int .i64 0, .slice none 0 0, .bool false, .bool false]
     have fS3 := fS2.ext hb3
     have fP3 := fP2.ext hb3
     have hbA3 := hbA2.tr hb3
     have hz3 : v2.heap.size < (v2.alloc (.cells #[.slice none 0 0, .int .i64 0, .int .i64 0, .int .i64 0, .int .i64 0, .int .i64 0, .int .i64 0, .int .i64 0, .slice none 0 0, .bool false, .bool false] 113)).heap.size := fZ3.lt
     generalize v2.alloc (.cells #[.slice none 0 0, .int .i64 0, .int .i64 0, .int .i64 0, .int .i64 0, .int .i64 0, .int .i64 0, .int .i64 0, .slice none 0 0, .bool false, .bool false] 113) = v3 at *
     (refine segw (D := Only (fun k => k = gc) w1) ((jo hbA3)) ?_; unfold wpMix; simp only [pick, j1, j2, j3, j4]; (repeat (show wpQuiet _ _ _ _ (_ :: _) _; go_big_quiet_step (fail))); refine qn ?_)
     go_wp2_with fail
     have CP := fr_call v3 _ g gc w1.heap.size v1.heap.size (HW.out _ hbA3).1 (HW.out _ hbA3).2.1 hne (fun h => by have := h.2; omega) (by omega) fS3 fP3 (by omega) (by omega) (HW.out _ hbA3).2.2
     unfold ptrV at CP
     refine CP.mono ?_
     clear CP
     rintro e v4 ⟨⟨rA, rc, fA, fc, rfl⟩, hOc⟩
     have hO4 := (jo (F := fun k => k = gc) hbA3).tr hOc
     have fZ4 := fZ3.only hOc (fun e => by have e' : v2.heap.size = gc := e; omega)
     have hz4 := hOc.size
     clear hOc
     go_wp2_with fail
     (refine segw (D := Only (fun k => k = gc) w1) (hO4) ?_; unfold wpMix; simp only [pick, j1, j2, j3, j4]; (repeat (show wpQuiet _ _ _ _ (_ :: _) _; go_big_quiet_step (fail))); refine qn ?_)
     refine wpList_store_blk (cs := planV (.slice rA 0 rc) tx1 8 zeroStamp (.slice fA 0 fc) false false) rfl rfl rfl rfl rfl fZ4 (by kernel_rfl) rfl (by simp [planV, Value.oneCell']) ?_
     intro v9 hB9 hO9 hz9
     go_simp
     have hO5 := hO4.trans hO9 (fun q hq e => by have e' : q = v2.heap.size := e; omega)
     (refine segw (D := Only (fun k => k = gc) w1) (hO5) ?_; unfold wpMix; simp only [pick, List.filterMap_nil]; (repeat (show wpQuiet _ _ _ _ (_ :: _) _; go_big_quiet_step (fail))); refine qn ?_)
     go_wp2_with fail
     go_meet
     exact ⟨_, rA, rc, fA, fc, rfl, hB9, hO5⟩
   ·go_wp2_with fail
    have hb2 : Below v1.heap.size v1 (v1.alloc (.cells #[.slice none 0 0, .int .i64 0, .int .i64 0, .int .i64 0, .int .i64 0, .int .i64 0, .int .i64 0, .int .i64 0, .slice none 0 0, .bool false, .bool false] 113)) := by repeat (with_reducible first | assumption | exact jb _ _ | refine Below.al ?_ _ | refine Below.drew ?_ | apply Below.st1)
    have fZ2 : Blk (v1.alloc (.cells #[.slice none 0 0, .int .i64 0, .int .i64 0, .int .i64 0, .int .i64 0, .int .i64 0, .int .i64 0, .int .i64 0, .slice none 0 0, .bool false, .bool false] 113)) v1.heap.size 113 [.slice none 0 0, .int .i64 0, .int .i64 0, .int .i64 0, .int .i64 0, .int .i64 0, .int .i64 0, .int .i64 0, .slice none 0 0, .bool false, .bool false] := Blk.new v1 113 [.slice none 0 0, .int .i64 0, .int .i64 0, .int .i64 0, .int .i64 0, .int .i64 0, .int .i64 0, .int .i64 0, .slice none 0 0, .bool false, .bool false]
    have fS2 := fS1.ext hb2
    have hbA2 := hbA1.tr hb2
    have hz2 : v1.heap.size < (v1.alloc (.cells #[.slice none 0 0, .int .i64 0, .int .i64 0, .int .i64 0, .int .i64 0, .int .i64 0, .int .i64 0, .int .i64 0, .slice none 0 0, .bool false, .bool false] 113)).heap.size := fZ2.lt
    generalize v1.alloc (.cells #[.slice none 0 0, .int .i64 0, .int .i64 0, .int .i64 0, .int .i64 0, .int .i64 0, .int .i64 0, .int .i64 0, .slice none 0 0, .bool false, .bool false] 113) = v2 at *
    (refine segw (D := Only (fun k => k = gc) w1) ((jo hbA2)) ?_; unfold wpMix; simp only [pick, j1, j2, j3, j4]; (repeat (show wpQuiet _ _ _ _ (_ :: _) _; go_big_quiet_step (fail))); refine qn ?_)
    go_wp2_with fail
    have hb3 : Below v2.heap.size v2 (v2.alloc (.cells #[.string ⟨#[98]⟩, .int .i64 (-1), .slice (some ⟨w1.heap.size, 0, none⟩) 1 1] 69)) := by repeat (with_reducible first | assumption | exact jb _ _ | refine Below.al ?_ _ | refine Below.drew ?_ | apply Below.st1)
    have fP3 : Blk (v2.alloc (.cells #[.string ⟨#[98]⟩, .int .i64 (-1), .slice (some ⟨w1.heap.size, 0, none⟩) 1 1] 69)) v2.heap.size 69 [.string ⟨#[98]⟩, .int .i64 (-1), .slice (some ⟨w1.heap.size, 0, none⟩) 1 1] := Blk.new v2 69 [.string ⟨#[98]⟩, .int .i64 (-1), .slice (some ⟨w1.heap.size, 0, none⟩) 1 1]
    have fS3 := fS2.ext hb3
    have fZ3 := fZ2.ext hb3
    have hbA3 := hbA2.tr hb3
    have hz3 : v2.heap.size < (v2.alloc (.cells #[.string ⟨#[98]⟩, .int .i64 (-1), .slice (some ⟨w1.heap.size, 0, none⟩) 1 1] 69)).heap.size := fP3.lt
    generalize v2.alloc (.cells #[.string ⟨#[98]⟩, .int .i64 (-1), .slice (some ⟨w1.heap.size, 0, none⟩) 1 1] 69) = v3 at *
    (refine segw (D := Only (fun k => k = gc) w1) ((jo hbA3)) ?_; unfold wpMix; simp only [pick, j1, j2, j3, j4]; (repeat (show wpQuiet _ _ _ _ (_ :: _) _; go_big_quiet_step (fail))); refine qn ?_)
    go_wp2_with fail
    have CP := fr_call v3 _ g gc w1.heap.size v2.heap.size (HW.out _ hbA3).1 (HW.out _ hbA3).2.1 hne (fun h => by have := h.2; omega) (by omega) fS3 fP3 (by omega) (by omega) (HW.out _ hbA3).2.2
    unfold ptrV at CP
    refine CP.mono ?_
    clear CP
    rintro e v4 ⟨⟨rA, rc, fA, fc, rfl⟩, hOc⟩
    have hO4 := (jo (F := fun k => k = gc) hbA3).tr hOc
    have fZ4 := fZ3.only hOc (fun e => by have e' : v1.heap.size = gc := e; omega)
    have hz4 := hOc.size
    clear hOc
    go_wp2_with fail
    (refine segw (D := Only (fun k => k = gc) w1) (hO4) ?_; unfold wpMix; simp only [pick, j1, j2, j3, j4]; (repeat (show wpQuiet _ _ _ _ (_ :: _) _; go_big_quiet_step (fail))); refine qn ?_)
    refine wpList_store_blk (cs := planV (.slice rA 0 rc) tx1 8 zeroStamp (.slice fA 0 fc) false false) rfl rfl rfl rfl rfl fZ4 (by kernel_rfl) rfl (by simp [planV, Value.oneCell']) ?_
    intro v9 hB9 hO9 hz9
    go_simp
    have hO5 := hO4.trans hO9 (fun q hq e => by have e' : q = v1.heap.size := e; omega)
    (refine segw (D := Only (fun k => k = gc) w1) (hO5) ?_; unfold wpMix; simp only [pick, List.filterMap_nil]; (repeat (show wpQuiet _ _ _ _ (_ :: _) _; go_big_quiet_step (fail))); refine qn ?_)
    go_wp2_with fail
    go_meet
    exact ⟨_, rA, rc, fA, fc, rfl, hB9, hO5⟩
  ·have hbA0 : Below w1.heap.size w1 w1 := jb _ _
   go_wp2_with fail
   have hb1 : Below w1.heap.size w1 ((w1.alloc (.cells #[.slice none 0 0, .int .i64 0, .int .i64 0, .int .i64 0, .int .i64 0, .int .i64 0, .int .i64 0, .int .i64 0, .slice none 0 0, .bool false, .bool false] 113)).drew) := by repeat (with_reducible first | assumption | exact jb _ _ | refine Below.al ?_ _ | refine Below.drew ?_ | apply Below.st1)
   have fZ1 : Blk ((w1.alloc (.cells #[.slice none 0 0, .int .i64 0, .int .i64 0, .int .i64 0, .int .i64 0, .int .i64 0, .int .i64 0, .int .i64 0, .slice none 0 0, .bool false, .bool false] 113)).drew) w1.heap.size 113 [.slice none 0 0, .int .i64 0, .int .i64 0, .int .i64 0, .int .i64 0, .int .i64 0, .int .i64 0, .int .i64 0, .slice none 0 0, .bool false, .bool false] := Blk.new w1 113 [.slice none 0 0, .int .i64 0, .int .i64 0, .int .i64 0, .int .i64 0, .int .i64 0, .int .i64 0, .int .i64 0, .slice none 0 0, .bool false, .bool false]
   have hbA1 := hbA0.tr hb1
   have hz1 : w1.heap.size < ((w1.alloc (.cells #[.slice none 0 0, .int .i64 0, .int .i64 0, .int .i64 0, .int .i64 0, .int .i64 0, .int .i64 0, .int .i64 0, .slice none 0 0, .bool false, .bool false] 113)).drew).heap.size := fZ1.lt
   generalize (w1.alloc (.cells #[.slice none 0 0, .int .i64 0, .int .i64 0, .int .i64 0, .int .i64 0, .int .i64 0, .int .i64 0, .int .i64 0, .slice none 0 0, .bool false, .bool false] 113)).drew = v1 at *
   (refine segw (D := Only (fun k => k = gc) w1) ((jo hbA1)) ?_; unfold wpMix; simp only [pick, j1, j2, j3, j4]; (repeat (show wpQuiet _ _ _ _ (_ :: _) _; go_big_quiet_step (fail))); refine qn ?_)
   go_wp2_with fail
   have hb2 : Below v1.heap.size v1 (v1.alloc (.cells #[.string ⟨#[120]⟩] 9)) := by repeat (with_reducible first | assumption | exact jb _ _ | refine Below.al ?_ _ | refine Below.drew ?_ | apply Below.st1)
   have fS2 : Blk (v1.alloc (.cells #[.string ⟨#[120]⟩] 9)) v1.heap.size 9 [.string ⟨#[120]⟩] := Blk.new v1 9 [.string ⟨#[120]⟩]
   have fZ2 := fZ1.ext hb2
   have hbA2 := hbA1.tr hb2
   have hz2 : v1.heap.size < (v1.alloc (.cells #[.string ⟨#[120]⟩] 9)).heap.size := fS2.lt
   generalize v1.alloc (.cells #[.string ⟨#[120]⟩] 9) = v2 at *
   (refine segw (D := Only (fun k => k = gc) w1) ((jo hbA2)) ?_; unfold wpMix; simp only [pick, j1, j2, j3, j4]; (repeat (show wpQuiet _ _ _ _ (_ :: _) _; go_big_quiet_step (fail))); refine qn ?_)
   go_wp2_with fail
   have hb3 : Below v2.heap.size v2 (v2.alloc (.cells #[.string ⟨#[98]⟩, .int .i64 (-1), .slice (some ⟨v1.heap.size, 0, none⟩) 1 1] 69)) := by repeat (with_reducible first | assumption | exact jb _ _ | refine Below.al ?_ _ | refine Below.drew ?_ | apply Below.st1)
   have fP3 : Blk (v2.alloc (.cells #[.string ⟨#[98]⟩, .int .i64 (-1), .slice (some ⟨v1.heap.size, 0, none⟩) 1 1] 69)) v2.heap.size 69 [.string ⟨#[98]⟩, .int .i64 (-1), .slice (some ⟨v1.heap.size, 0, none⟩) 1 1] := Blk.new v2 69 [.string ⟨#[98]⟩, .int .i64 (-1), .slice (some ⟨v1.heap.size, 0, none⟩) 1 1]
   have fZ3 := fZ2.ext hb3
   have fS3 := fS2.ext hb3
   have hbA3 := hbA2.tr hb3
   have hz3 : v2.heap.size < (v2.alloc (.cells #[.string ⟨#[98]⟩, .int .i64 (-1), .slice (some ⟨v1.heap.size, 0, none⟩) 1 1] 69)).heap.size := fP3.lt
   generalize v2.alloc (.cells #[.string ⟨#[98]⟩, .int .i64 (-1), .slice (some ⟨v1.heap.size, 0, none⟩) 1 1] 69) = v3 at *
   (refine segw (D := Only (fun k => k = gc) w1) ((jo hbA3)) ?_; unfold wpMix; simp only [pick, j1, j2, j3, j4]; (repeat (show wpQuiet _ _ _ _ (_ :: _) _; go_big_quiet_step (fail))); refine qn ?_)
   go_wp2_with fail
   have CP := fr_call v3 _ g gc v1.heap.size v2.heap.size (HW.out _ hbA3).1 (HW.out _ hbA3).2.1 hne (fun h => by have := h.2; omega) (by omega) fS3 fP3 (by omega) (by omega) (HW.out _ hbA3).2.2
   unfold ptrV at CP
   refine CP.mono ?_
   clear CP
   rintro e v4 ⟨⟨rA, rc, fA, fc, rfl⟩, hOc⟩
   have hO4 := (jo (F := fun k => k = gc) hbA3).tr hOc
   have fZ4 := fZ3.only hOc (fun e => by have e' : w1.heap.size = gc := e; omega)
   have hz4 := hOc.size
   clear hOc
   go_wp2_with fail
   (refine segw (D := Only (fun k => k = gc) w1) (hO4) ?_; unfold wpMix; simp only [pick, j1, j2, j3, j4]; (repeat (show wpQuiet _ _ _ _ (_ :: _) _; go_big_quiet_step (fail))); refine qn ?_)
   refine wpList_store_blk (cs := planV (.slice rA 0 rc) tx1 8 zeroStamp (.slice fA 0 fc) false false) rfl rfl rfl rfl rfl fZ4 (by kernel_rfl) rfl (by simp [planV, Value.oneCell']) ?_
   intro v9 hB9 hO9 hz9
   go_simp
   have hO5 := hO4.trans hO9 (fun q hq e => by have e' : q = w1.heap.size := e; omega)
   (refine segw (D := Only (fun k => k = gc) w1) (hO5) ?_; unfold wpMix; simp only [pick, List.filterMap_nil]; (repeat (show wpQuiet _ _ _ _ (_ :: _) _; go_big_quiet_step (fail))); refine qn ?_)
   go_wp2_with fail
   go_meet
   exact ⟨_, rA, rc, fA, fc, rfl, hB9, hO5⟩
 case rest =>
  obtain ⟨pb, rA, rc, fA, fc, rfl, hB9, hO9⟩ := hcut
  have hz9 := hO9.size
  have hpb := hB9.lt
  have H9 := jh (ja hB9 hO9)
  have hst9 : StAt wc (fun k => (w.heap.size ≤ k ∧ k ≠ g) ∧ k < gc) g frS := by
   obtain ⟨v, a, b⟩ := H1.out.1.st
   exact ⟨v, a.only hO9 hne, b.same (Same.of_only hO9 fun k hk e => by have e' : k = gc := e; have := hk.2; omega)⟩
  have e0' : wc.cell? ⟨wb, 0, none⟩ = some (.pointer (some ⟨g, 0, none⟩)) := (World.cell?_of_block (hO9.block wb hwbl hwne)).trans e0
  have C2 := sranges_any g frS _ wc hst9 (by decide) (by decide)
  unfold GotOwn ptrV at C2
  clear hB9 hO9 hst9 y0 y1
  go_wp2_with fail
  refine C2.mono ?_
  clear C2 e0'
  rintro e wd ⟨⟨v, rfl, ho⟩, hbd⟩
  obtain ⟨Ar, cr, rfl, _⟩ := ho.form
  have C3 := rOf_any Ar cr frS.ring ⟨#[98]⟩ (fun _ => True) wd (ho.row' range_plain fun _ _ => trivial) (by kernel_rfl) (by show (1 : Nat) ≤ _; omega)
  rw [fr_of] at C3
  unfold Found at C3
  dsimp only at C3
  have HD := jh hbd
  clear ho hbd
  go_wp2_with fail
  refine C3.mono ?_
  clear C3
  rintro e we ⟨rfl, hbe⟩
  have HE := jh (HD.out.tr hbe)
  have B := H9.out.1.ext HE.out
  have p0 := B.cell 0
  have p4 := B.cell 4
  have hlt := B.lt
  simp only [planV, List.getElem?_cons_zero, List.getElem?_cons_succ] at p0 p4
  clear hbe B
  go_wp2_with fail
  go_ret
  exact ⟨rfl, ((H1.out.2.trans (H9.out.2.low (fun k e => by have e' : k = gc := e; omega) hz1)).tr HE.out).al _⟩
end Go.Proofs.YtcmjgghkmdbphaaGreatDoor
namespace Go.Proofs.YtcmjgghkmdbphaaGreatDoor
open Go.RowKit
theorem recs_at {w : World} {P : Nat → Prop} {A : Option Addr} {l : List Rec} (h : RecR.Row w P A l) {k : Nat} {r : Rec} (hk : l[k]? = some r) :
 ∃ b o nA nc pA pc sA sc, A = some ⟨b, o, none⟩ ∧ b < w.heap.size ∧ RecAt w P r nA nc pA pc sA sc ∧ ∀ j u, (r.cells nA nc pA pc sA sc)[j]? = some u → w.cell? ⟨b, o + k * 18 + j, none⟩ = some u := by
 obtain ⟨b, o, cs, hA, _, hb, hrep, hcs⟩ := h.at_ hk
 obtain ⟨nA, nc, pA, pc, sA, sc, rfl, hr⟩ := rec_rep.1 hrep
 exact ⟨b, o, nA, nc, pA, pc, sA, sc, hA, hb, hr, hcs⟩
end Go.Proofs.YtcmjgghkmdbphaaGreatDoor
namespace Go.Proofs.YtcmjgghkmdbphaaGreatDoor
open Go.RowKit
def ckR (n : Int) : Clk := ⟨n, ⟨1, 0, 1⟩⟩
theorem merge_zero (n : Int) : mergeC (ckR n) zeroStamp = (ckR n, 0) := by
 unfold mergeC
 rw [if_neg (by decide), if_neg (fun h => absurd h.1 (by show ¬ (1 : Int) < 0; decide))]
 rfl
theorem aw_new : newS 1 1 = some awS := by kernel_rfl
theorem aw_fitS : Fit awS := (inv_new aw_new).fit (by decide)
theorem aw_mayA : mayS awS (frB ⟨#[97]⟩) = ([1], zeroKnown, 0) := by kernel_rfl
def nxt (n : Int) : Stamp := if 1 < n then ⟨n, 0, 1⟩ else ⟨1, 1, 1⟩
theorem tick_ck (n : Int) : tickC (ckR n) = (⟨n, nxt n⟩, nxt n, 0) := by
 have h : nextC (ckR n) = nxt n := by unfold nextC nxt ckR; rfl
 unfold tickC
 rw [h, if_neg]
 ·rfl
 ·unfold nxt; split
  ·show ¬ (65536 : Int) ≤ 0; decide
  ·show ¬ (65536 : Int) ≤ 1; decide
theorem drift_prep (n : Int) : prepP awS (ckR n) tx1 (frB ⟨#[97]⟩) zeroStamp = (⟨n, nxt n⟩, ⟨[prepR tx1 (frB ⟨#[97]⟩) (nxt n)], 0, nxt n, [1]⟩) := by
 unfold prepP
 rw [show getA tx1 awS.held = none from rfl, merge_zero]
 dsimp only
 rw [if_neg (by decide), if_neg (by decide)]
 unfold prepM
 rw [aw_mayA, tick_ck, if_pos rfl, if_neg (by simp)]
theorem prep_check {st : Stamp} (h : soundB st = true) : checkR (prepR tx1 (frB ⟨#[97]⟩) st) = 0 := by
 have e : recB (prepR tx1 (frB ⟨#[97]⟩) st) = !((!soundB st) || false) := by kernel_rfl
 unfold checkR
 rw [e, h]
 rfl
def heldS (st : Stamp) : St := { awS with held := [(tx1, ⟨tx1, frB ⟨#[97]⟩, st, [1]⟩)] }
theorem drift_apply {st : Stamp} (h : soundB st = true) : applyS awS (prepR tx1 (frB ⟨#[97]⟩) st) = (heldS st, 0) := by
 unfold applyS
 rw [if_neg (by rw [prep_check h]; simp), doS_4 rfl]
 unfold prepareS
 rw [show (getA (prepR tx1 (frB ⟨#[97]⟩) st).tx awS.held).isSome = false from rfl, if_neg (by simp), if_neg (show ¬ 0 < (getA (prepR tx1 (frB ⟨#[97]⟩) st).tx awS.decided).getD 0 from (by decide : ¬ (0 : Int) < 0))]
 rw [show (prepR tx1 (frB ⟨#[97]⟩) st).batch = frB ⟨#[97]⟩ from rfl, aw_mayA, if_pos rfl]
 rfl
theorem held_fit {st : Stamp} (h : soundB st = true) : Fit (heldS st) := by
 have hi := apply_inv (r := prepR tx1 (frB ⟨#[97]⟩) st) (inv_new aw_new) (by decide)
 rw [drift_apply h] at hi
 exact hi.fit (show 0 + costR (prepR tx1 (frB ⟨#[97]⟩) ⟨0, 0, 0⟩) ≤ 39000 by decide)
end Go.Proofs.YtcmjgghkmdbphaaGreatDoor
namespace Go.Proofs.YtcmjgghkmdbphaaGreatDoor
open Go.RowKit
theorem wpList_load_atG {P : Program} {ops : Array Oper} {rest : List Oper} {o : Oper} {a : Act} {w : World} {Q : Exit → Act → World → Prop} (hgd : Region.wanted o (yielded ops a.tmps) = true) {ty : TypeId} {x : Operand} (ho : o.op = .load ty x) {b off : Nat} (hx : a.eval x = .pointer (some ⟨b, off, none⟩)) {cs : List Value} {d : TypeDesc}
 (hg : ∀ j u, cs[j]? = some u → w.cell? ⟨b, off + j, none⟩ = some u) (hu : P.underlying ty = some d) (hd : (match d with | .struct _ | .array _ _ => true | _ => false) = true) (hi : (P.info? ty).map (·.size) = some cs.length)
 (h : wpList P ops Q rest (a.put o.dst (.agg cs.toArray)) w) : wpList P ops Q (o :: rest) a w := by
 refine wpList_step fun K' hK' => ?_
 rw [if_pos hgd]
 have hl : (loadCells ⟨b, off, none⟩ cs.length).run P w = .ok cs.toArray w :=
  run_loadCells_list (P := P) w ⟨b, off, none⟩ cs (fun j v hv => by rw [add_off]; exact hg j v hv)
 have hr : (loadVar ty ⟨b, off, none⟩).run P w = .ok (.agg cs.toArray) w := by
  cases hq : P.info? ty with
  | none => simp [hq] at hi
  | some i =>
    have hs : i.size = cs.length := by simpa [hq] using hi
    have hagg : (isAgg ty).run P w = .ok true w := by
     unfold isAgg
     rw [Sem.run_bind, run_underlying hu w]
     cases d <;> simp_all
    simp [loadVar, Sem.run_bind, hagg, sizeOf, typeInfo, hq, hs, hl]
 unfold Oper.wp execOp
 simp only [ho, hx, Instr.loadAt, Instr.sureAddr, Sem.run_bind, Sem.run_pure, Result.andThen_ok, hr]
 exact hK' _ _ h
end Go.Proofs.YtcmjgghkmdbphaaGreatDoor
namespace Go.Proofs.YtcmjgghkmdbphaaGreatDoor
open Go.RowKit
structure NwAt (w : World) (g gc : Nat) (s : St) (c : Clk) (W : World) : Prop where
 st : StAt W (fun k => w.heap.size ≤ k ∧ k ≠ g ∧ k ≠ gc) g s
 ck : CkAt W gc c
 hg : w.heap.size ≤ g
 hgc : w.heap.size ≤ gc
 ne : g ≠ gc
 tabs : Tabs W
 below : Below w.heap.size w W
section
variable {w W W' : World} {g gc : Nat} {s s' : St} {c c' : Clk}
theorem NwAt.ext (h : NwAt w g gc s c W) (hb : Below W.heap.size W W') : NwAt w g gc s c W' :=
 ⟨by obtain ⟨v, a, b⟩ := h.st; exact ⟨v, a.ext hb, b.same (js hb)⟩, Blk.ext h.ck hb, h.hg, h.hgc, h.ne, h.tabs.below hb, h.below.tr hb⟩
theorem NwAt.clk (h : NwAt w g gc s c W) (h2 : 2 ≤ w.heap.size) (hc : CkAt W' gc c') (hO : Only (· = gc) W W') : NwAt w g gc s c' W' :=
 ⟨by obtain ⟨v, a, b⟩ := h.st; exact ⟨v, a.only hO h.ne, b.same (Same.of_only hO fun k hk e => hk.2.2 e)⟩, hc, h.hg, h.hgc, h.ne,
  h.tabs.only hO (by intro e; have e' : 0 = gc := e; have := h.hgc; omega) (by intro e; have e' : 1 = gc := e; have := h.hgc; omega), h.below.trans (hO.low (fun k e => by have e' : k = gc := e; have := h.hgc; omega) h.below.size)⟩
theorem NwAt.stt (h : NwAt w g gc s c W) (h2 : 2 ≤ w.heap.size) (hs : StAt W' (fun k => (w.heap.size ≤ k ∧ k ≠ g ∧ k ≠ gc) ∨ W.heap.size ≤ k) g s') (hO : Only (· = g) W W') : NwAt w g gc s' c W' :=
 ⟨by
  obtain ⟨v, a, b⟩ := hs
  have h1 := h.st.lt
  have h2 := h.ck.lt
  have h3 := h.below.size
  exact ⟨v, a, b.mono fun k hk => by rcases hk with hk | hk; exact hk; exact ⟨by omega, by omega, by omega⟩⟩, Blk.only h.ck hO (fun e => h.ne e.symm), h.hg, h.hgc, h.ne,
  h.tabs.only hO (by intro e; have e' : 0 = g := e; have := h.hg; omega) (by intro e; have e' : 1 = g := e; have := h.hg; omega), h.below.trans (hO.low (fun k e => by have e' : k = g := e; have := h.hg; omega) h.below.size)⟩
end
theorem prep_fair {st : Stamp} : (prepR tx1 (frB ⟨#[97]⟩) st).Fair := ⟨by show (1 : Nat) ≤ _; decide, fun p hp => by rcases List.mem_singleton.1 hp with rfl; show (1 : Nat) ≤ _; decide, by show (0 : Nat) ≤ _; decide, by show (0 : Nat) ≤ _; decide, by show (0 : Nat) ≤ _; decide, fun s hs => by cases hs⟩
structure MsAt (xb : Nat) (W : World) : Prop where
 x : Blk W xb 9 [.string ⟨#[120]⟩]
 p : Blk W (xb + 1) 69 [.string ⟨#[97]⟩, .int .i64 (-1), .slice (some ⟨xb, 0, none⟩) 1 1]
 m : Blk W (xb + 1 + 1) 109 [.int .i64 2, .int .i64 1, .int .i64 1, .string ⟨#[]⟩, .slice (some ⟨xb + 1, 0, none⟩) 1 1, .int .i64 0, .int .i64 0, .int .i64 0]
theorem MsAt.ext {xb : Nat} {W W' : World} (h : MsAt xb W) (hb : Below W.heap.size W W') : MsAt xb W' := ⟨h.x.ext hb, h.p.ext hb, h.m.ext hb⟩
theorem MsAt.only {xb : Nat} {W W' : World} {F : Nat → Prop} (h : MsAt xb W) (hO : Only F W W') (hF : ∀ k, xb ≤ k → k ≤ xb + 2 → ¬ F k) : MsAt xb W' :=
 ⟨h.x.only hO (hF _ (by omega) (by omega)), h.p.only hO (hF _ (by omega) (by omega)), h.m.only hO (hF _ (by omega) (by omega))⟩
end Go.Proofs.YtcmjgghkmdbphaaGreatDoor
namespace Go.Proofs.YtcmjgghkmdbphaaGreatDoor
open Go.RowKit
def at50 : Stamp := ⟨50, 0, 2⟩
def once1 : St := heldS ⟨1, 1, 1⟩
def onceC : Clk := ⟨0, ⟨1, 1, 1⟩⟩
def onceD (yes : Bool) : Clk := if yes then ⟨0, ⟨50, 0, 1⟩⟩ else onceC
def onceR (yes : Bool) : Rec := if yes then decR tx1 true at50 else decR tx1 false zeroStamp
def once2 (yes : Bool) : St := (applyS once1 (onceR yes)).1
theorem once_fit1 : Fit once1 := held_fit (by decide)
theorem once_inv1 : Inv once1 (costR (prepR tx1 (frB ⟨#[97]⟩) ⟨1, 1, 1⟩)) := by
 have hi := apply_inv (r := prepR tx1 (frB ⟨#[97]⟩) ⟨1, 1, 1⟩) (inv_new aw_new) (by decide)
 rw [drift_apply (by decide)] at hi
 have h2 : Inv (heldS ⟨1, 1, 1⟩) (0 + costR (prepR tx1 (frB ⟨#[97]⟩) ⟨1, 1, 1⟩)) := hi
 rw [Nat.zero_add] at h2
 exact h2
theorem once_okD (yes : Bool) : (onceD yes).Ok := by cases yes <;> exact ⟨by decide, by decide, by decide, by decide⟩
theorem once_okC : onceC.Ok := ⟨by decide, by decide, by decide, by decide⟩
theorem once_prep1 : prepP awS ck1 tx1 (frB ⟨#[97]⟩) zeroStamp = (onceC, ⟨[prepR tx1 (frB ⟨#[97]⟩) ⟨1, 1, 1⟩], 0, ⟨1, 1, 1⟩, [1]⟩) := drift_prep 0
theorem once_apply1 : applyS awS (prepR tx1 (frB ⟨#[97]⟩) ⟨1, 1, 1⟩) = (once1, 0) := drift_apply (by decide)
theorem once_prep2 : prepP once1 onceC tx1 (frB ⟨#[97]⟩) zeroStamp = (onceC, ⟨[], 0, ⟨1, 1, 1⟩, [1]⟩) := by unfold prepP; rfl
theorem once_dec (yes : Bool) : decP once1 onceC tx1 yes at50 = (onceD yes, [onceR yes], true) := by cases yes <;> kernel_rfl
theorem once_code (yes : Bool) : (applyS once1 (onceR yes)).2 = 0 := by cases yes <;> kernel_rfl
theorem once_held (yes : Bool) : (once2 yes).held = [] := by cases yes <;> kernel_rfl
theorem once_self (yes : Bool) : (once2 yes).self = 1 := by cases yes <;> kernel_rfl
theorem once_vers (yes : Bool) : versionT (once2 yes).table ⟨#[97]⟩ = if yes then 1 else 0 := by cases yes <;> kernel_rfl
theorem once_done (yes : Bool) : (getA tx1 (once2 yes).decided).getD 0 = 1 := by cases yes <;> kernel_rfl
theorem once_fit2 (yes : Bool) : Fit (once2 yes) := by
 have hi := apply_inv (r := onceR yes) once_inv1 (by decide)
 exact hi.fit (by cases yes <;> decide)
theorem once_prep3 (yes : Bool) : prepP (once2 yes) (onceD yes) tx1 (frB ⟨#[97]⟩) zeroStamp = (onceD yes, noP 11) := by
 unfold prepP
 rw [show getA tx1 (once2 yes).held = none from by rw [once_held]; rfl]
 dsimp only
 rw [once_done, if_pos (by decide)]
theorem once_dec2 (yes y : Bool) (c : Clk) (st : Stamp) : decP (once2 yes) c tx1 y st = (c, [], true) := by
 unfold decP
 rw [show (getA tx1 (once2 yes).held).isNone = true from by rw [once_held]; rfl]
 rfl
theorem once_fair (yes : Bool) : (onceR yes).Fair := by cases yes <;> exact ⟨by show (0 : Nat) ≤ _; decide, (fun p hp => by cases hp), by show (0 : Nat) ≤ _; decide, by show (0 : Nat) ≤ _; decide, by show (0 : Nat) ≤ _; decide, fun s hs => by cases hs⟩
def lessS (a b : Stamp) : Bool := if a.wall ≠ b.wall then decide (a.wall < b.wall) else if a.logic ≠ b.logic then decide (a.logic < b.logic) else decide (a.node < b.node)
theorem rLess_any (a b : Stamp) (w : World) : Calls Tryz.prog 61 #[.agg #[.int .i64 a.wall, .int .i64 a.logic, .int .i64 a.node], .agg #[.int .i64 b.wall, .int .i64 b.logic, .int .i64 b.node]] w fun e w' => e = .returned (.bool (lessS a b)) ∧ Below w.heap.size w w' := by
 have hcase : (a.wall != b.wall) = true ∨ ((a.wall != b.wall) = false ∧ (a.logic != b.logic) = true) ∨ ((a.wall != b.wall) = false ∧ (a.logic != b.logic) = false) := by
  cases (a.wall != b.wall) <;> cases (a.logic != b.logic) <;> simp
 rcases hcase with h | ⟨h, h'⟩ | ⟨h, h'⟩
 ·have HL := jh (show lessS a b = decide (a.wall < b.wall) from by unfold lessS; rw [if_pos (by simpa using h)])
  go_enter Tryz.func61, Tryz.ntmps61
  go_wp2_with fail
  go_ret
  exact ⟨ret_bool HL.out.symm, by repeat (with_reducible first | assumption | exact jb _ _ | refine Below.al ?_ _ | refine Below.drew ?_ | apply Below.st1)⟩
 ·have HL := jh (show lessS a b = decide (a.logic < b.logic) from by unfold lessS; rw [if_neg (by simpa using h), if_pos (by simpa using h')])
  go_enter Tryz.func61, Tryz.ntmps61
  go_wp2_with fail
  go_ret
  exact ⟨ret_bool HL.out.symm, by repeat (with_reducible first | assumption | exact jb _ _ | refine Below.al ?_ _ | refine Below.drew ?_ | apply Below.st1)⟩
 ·have HL := jh (show lessS a b = decide (a.node < b.node) from by unfold lessS; rw [if_neg (by simpa using h), if_neg (by simpa using h')])
  go_enter Tryz.func61, Tryz.ntmps61
  go_wp2_with fail
  go_ret
  exact ⟨ret_bool HL.out.symm, by repeat (with_reducible first | assumption | exact jb _ _ | refine Below.al ?_ _ | refine Below.drew ?_ | apply Below.st1)⟩
end Go.Proofs.YtcmjgghkmdbphaaGreatDoor
