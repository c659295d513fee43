/- hand.Install: a range is to come. HandBack: a round, computed. HandBack: where the two nodes lie. The reference's SameEvents, SameRanges, SameStreams of equal lists. A struct out of a row, read among a drawn region's heads. -/
import Derived.Test.YtcmjgghkmdbphaaGreatDoorB24
import Derived.Test.YtcmjgghkmdbphaaGreatDoorB17
import Derived.Test.YtcmjgghkmdbphaaGreatDoorB19
import Derived.Test.YtcmjgghkmdbphaaGreatDoorB20
import Derived.Test.YtcmjgghkmdbphaaGreatDoorB04
import Derived.Test.YtcmjgghkmdbphaaGreatDoorB16
import Derived.Test.YtcmjgghkmdbphaaGreatDoorB21
import Derived.Test.YtcmjgghkmdbphaaGreatDoorB18
import Derived.Test.YtcmjgghkmdbphaaGreatDoorB09
import Derived.Test.YtcmjgghkmdbphaaGreatDoorB12
import Derived.Laws.StructEq
import Derived.Test.YtcmjgghkmdbphaaGreatDoorB08
set_option maxRecDepth 20000
set_option maxHeartbeats 25600000
namespace Go.Proofs.YtcmjgghkmdbphaaGreatDoor
open Go.RowKit
theorem field_node (x y z : Value) (w : World) : (Instr.field 40 (.agg #[x, y, z]) 2).run Tryz.prog w = .ok z w := by kernel_rfl
def badI (c : Clk) (m : Copy) : Bool := !(mayI m.range) || decide (m.range.owner ≠ c.last.node) || decide ((mergeC c m.floor).2 ≠ 0)
def clkI (c : Clk) (m : Copy) : Clk := if mayI m.range = true ∧ m.range.owner = c.last.node then (mergeC c m.floor).1 else c
def insR (m : Copy) : Rec := ⟨10, 0, 0, false, m.floor, ⟨0, 0, 0⟩, [], ⟨⟨#[]⟩, []⟩, m.range, m.streams⟩
def planZh : List Value := [.slice none 0 0, .int .i64 0, .int .i64 0, .int .i64 0, .int .i64 0, .bool false]
def planI (rs : Value) (r : Range) : List Value := [rs, .int .i64 r.first, .int .i64 r.last, .int .i64 r.owner, .int .i64 r.epoch, .bool true]
def GotPlanI (B : Nat) (P : Nat → Prop) (s : St) (c : Clk) (m : Copy) (e : Ending) (w' : World) : Prop :=
 ((badI c m = true ∨ (hasI s.ring m.range = false ∧ (applyS s (insR m)).2 ≠ 0)) ∧ e = .returned (.agg planZh.toArray)) ∨
 (badI c m = false ∧ hasI s.ring m.range = true ∧ e = .returned (.agg (planI (.slice none 0 0) m.range).toArray)) ∨
 (badI c m = false ∧ hasI s.ring m.range = false ∧ (applyS s (insR m)).2 = 0 ∧ ∃ A, e = .returned (.agg (planI (.slice A 1 1) m.range).toArray) ∧ RecR.Row w' (fun k => B ≤ k ∨ P k) A [insR m])
theorem installH_any (g gc : Nat) (s : St) (c : Clk) (m : Copy) (mA : Option Addr) (mc : Nat) (P Q : Nat → Prop) (w : World) (h : StAt w P g s) (hS : Fit s) (hT : Tabs w) (_h2 : 2 ≤ w.heap.size) (hrl : s.ring.length ≤ 300) (hfl : (freshT s.table).length ≤ 40000)
 (hc : CkAt w gc c) (hgc2 : 2 ≤ gc) (hk : c.Ok) (hg : g ≠ gc) (hP : ¬ P gc) (hm : CopyR.rep w Q (m.cells mA mc) m) (hQ : ¬ Q gc) (hmF : (insR m).Fair) (hmP : PutFair m.streams) :
 Calls Tryz.prog 77 #[ptrV g, .pointer (some ⟨gc, 0, none⟩), .agg (m.cells mA mc).toArray] w fun e w' => GotPlanI w.heap.size Q s c m e w' ∧ CkAt w' gc (clkI c m) ∧ Only (· = gc) w w' := by
 have hgcl := hc.lt
 have HST := jh (fun W (hW : Only (fun k => k = gc) w W) => (show StAt W (fun k => P k ∧ k < w.heap.size) g s from by obtain ⟨v, a, b⟩ := h; exact ⟨v, a.only hW hg, b.low.same (Same.of_only hW fun k hk e => by have e' : k = gc := e; subst e'; exact hP hk.1)⟩))
 have hb0 := ((jb w.heap.size w).al (.cells (m.cells mA mc).toArray 139)).al (.cells planZh.toArray 154)
 have B0 := (Blk.new w 139 (m.cells mA mc)).alloc (.cells planZh.toArray 154)
 have B1 := Blk.new1 w (.cells (m.cells mA mc).toArray 139) 154 planZh
 have HM := jh (show StreamR.Row w (fun k => Q k ∧ k < w.heap.size) mA m.streams ∧ m.range.fit ∧ m.floor.fit ∧ m.streams.length ≤ mc ∧ mc ≤ 9223372036854775807 from by
  obtain ⟨A, q, e, h1, h2, h3, h4, h5⟩ := copy_rep.1 hm
  have e' : Value.slice mA m.streams.length mc = Value.slice A m.streams.length q := by
   have := congrArg (fun l : List Value => l[7]?) e
   simpa [Copy.cells] using this
  injection e' with e1 _ e2
  subst e1 e2
  exact ⟨h5.mono fun k a b => ⟨a, b⟩, h1, h2, h3, h4⟩)
 have HQ' := jh hQ
 have HF := jh (ja hS (ja hT (ja hrl (ja hfl (ja hk (ja hmF hmP))))))
 have HC := jh (Blk.ext hc hb0)
 have HB := jh (ja hb0 (ja B0 B1))
 clear h hS hT hrl hfl hc hm hmF hmP hb0 B0 B1 hQ
 unfold ptrV
 unfold planZh Copy.cells at HB
 unfold Copy.cells at HC
 unfold planZh at HC
 unfold Copy.cells
 go_enter Tryz.func77, Tryz.ntmps77
 go_upto_region 1 with fail
 generalize hw1 : (w.alloc (.cells #[.int .i64 m.range.first, .int .i64 m.range.last, .int .i64 m.range.owner, .int .i64 m.range.epoch, .int .i64 m.floor.wall, .int .i64 m.floor.logic, .int .i64 m.floor.node, .slice mA m.streams.length mc] 139)).alloc (.cells #[.slice none 0 0, .int .i64 0, .int .i64 0, .int .i64 0, .int .i64 0, .bool false] 154) = w1 at *
 clear hw1
 have hz1 := HB.out.1.size
 have hgn : w.heap.size ≠ gc := by omega
 have b0 := HB.out.2.1.cell
 go_cut [28] from 9 to 28 (fun v wx => v = .bool (badI c m) ∧ CkAt wx gc (clkI c m) ∧ Only (fun k => k = gc) w1 wx)
 case first =>
  haveI : Nonempty (Wd (Only (fun k => k = gc) w1)) := ⟨⟨w1, Only.refl _ _⟩⟩
  have y0 := OnlyD.cell (F := (· = gc)) (b0 0 : w1.cell? ⟨w.heap.size, 0, none⟩ = some (.int .i64 m.range.first)) hgn
  have y1 := OnlyD.cell (F := (· = gc)) (b0 1 : w1.cell? ⟨w.heap.size, 1, none⟩ = some (.int .i64 m.range.last)) hgn
  have y2 := OnlyD.cell (F := (· = gc)) (b0 2 : w1.cell? ⟨w.heap.size, 2, none⟩ = some (.int .i64 m.range.owner)) hgn
  have y3 := OnlyD.cell (F := (· = gc)) (b0 3 : w1.cell? ⟨w.heap.size, 3, none⟩ = some (.int .i64 m.range.epoch)) hgn
  have y4 := OnlyD.cell (F := (· = gc)) (b0 4 : w1.cell? ⟨w.heap.size, 4, none⟩ = some (.int .i64 m.floor.wall)) hgn
  have y5 := OnlyD.cell (F := (· = gc)) (b0 5 : w1.cell? ⟨w.heap.size, 5, none⟩ = some (.int .i64 m.floor.logic)) hgn
  have y6 := OnlyD.cell (F := (· = gc)) (b0 6 : w1.cell? ⟨w.heap.size, 6, none⟩ = some (.int .i64 m.floor.node)) hgn
  clear b0
  refine wp_region_mix (.seg [0, 1] 2 (.seg [3, 4, 5, 6, 7, 8] 9 (.seg [10, 11, 12, 13, 14, 15, 16] 17 (.leaf [18, 19])))) (fun w' => ∃ d : Wd (Only (fun k => k = gc) w1), w' = d.w) (by kernel_rfl) (by kernel_rfl) (fun _ _ d _ _ h => by cases d <;> exact h) (ClsW.mk Only.drew) ?_
  unfold wpMix; simp only [pick, j1, j2, j3, j4]
  (repeat (show wpQuiet _ _ _ _ (_ :: _) _; go_big_quiet_step (fail))); refine qn ?_
  have C1 := mayI_any m.range w1.drew
  go_wp2_with fail
  refine C1.mono ?_
  clear C1
  rintro e w2 ⟨rfl, hb2⟩
  have hO2 : Only (fun k => k = gc) w1 w2 := Only.tr Only.drew (jo hb2)
  cases hmay : mayI m.range
  ·have HR := jh (show badI c m = true ∧ clkI c m = c from by unfold badI clkI; rw [hmay]; simp)
   have HC2 := jh (Blk.ext HC.out ((jb w1.heap.size w1).drew.tr hb2))
   clear hmay hb2
   go_wp2_with fail
   (refine segw (D := Only (fun k => k = gc) w1) (hO2) ?_; unfold wpMix; simp only [pick, j1, j2, j3, j4]; (repeat (show wpQuiet _ _ _ _ (_ :: _) _; go_big_quiet_step (fail))); refine qn ?_)
   go_wp2_with fail
   (refine segw (D := Only (fun k => k = gc) w1) (hO2) ?_; unfold wpMix; simp only [pick, j1, j2, j3, j4]; (repeat (show wpQuiet _ _ _ _ (_ :: _) _; go_big_quiet_step (fail))); refine qn ?_)
   go_wp2_with fail
   (refine segw (D := Only (fun k => k = gc) w1) (hO2) ?_; unfold wpMix; simp only [pick, j1, j2, j3, j4]; (repeat (show wpQuiet _ _ _ _ (_ :: _) _; go_big_quiet_step (fail))); refine qn ?_)
   go_wp2_with fail
   go_meet
   rw [HR.out.1, HR.out.2]
   exact ⟨rfl, HC2.out, hO2⟩
  ·have hb2' := (jb w1.heap.size w1).drew.tr hb2
   have HC2 := jh (Blk.ext HC.out hb2')
   have C2 := clkNow_any gc c w2 HC2.out (by rw [beq_eq_false_iff_ne]; have := HF.out.2.2.2.2.1.node; omega)
   have HMY := jh hmay
   have hfld := field_node
   clear hmay
   unfold Clk.cells Stamp.cells at C2
   go_wp2_with fail
   (refine segw (D := Only (fun k => k = gc) w1) (hO2) ?_; unfold wpMix; simp only [pick, j1, j2, j3, j4]; (repeat (show wpQuiet _ _ _ _ (_ :: _) _; go_big_quiet_step (fail))); refine qn ?_)
   go_wp2_with fail
   refine C2.mono ?_
   clear C2
   rintro e w3 ⟨rfl, hb3⟩
   have hO3 : Only (fun k => k = gc) w1 w3 := hO2.tr (jo hb3)
   have HC3 := jh (Blk.ext HC2.out hb3)
   clear hb3 hb2 hb2' HC2
   by_cases hown : m.range.owner = c.last.node
   ·have hown' : (m.range.owner != c.last.node) = false := by simp [hown]
    have HB2 := jh (show badI c m = decide ((mergeC c m.floor).2 ≠ 0) ∧ clkI c m = (mergeC c m.floor).1 from by unfold badI clkI; rw [HMY.out]; simp [hown])
    have C4 := clkMerge_any gc c m.floor w3 HC3.out HF.out.2.2.2.2.1
    clear hown
    go_wp2_with fail
    (refine segw (D := Only (fun k => k = gc) w1) (hO3) ?_; unfold wpMix; simp only [pick, j1, j2, j3, j4]; (repeat (show wpQuiet _ _ _ _ (_ :: _) _; go_big_quiet_step (fail))); refine qn ?_)
    go_wp2_with fail
    refine C4.mono ?_
    clear C4
    rintro e w4 ⟨rfl, hc4, hO4'⟩
    have hO4 : Only (fun k => k = gc) w1 w4 := hO3.tr hO4'
    have HC4 := jh hc4
    generalize (mergeC c m.floor).2 = code at *
    clear hO4' hc4
    go_wp2_with fail
    (refine segw (D := Only (fun k => k = gc) w1) (hO4) ?_; unfold wpMix; simp only [pick, j1, j2, j3, j4]; (repeat (show wpQuiet _ _ _ _ (_ :: _) _; go_big_quiet_step (fail))); refine qn ?_)
    go_wp2_with fail
    go_meet
    rw [HB2.out.1, HB2.out.2]
    refine ⟨?_, HC4.out, hO4⟩
    congr 1
    rw [Bool.eq_iff_iff]
    simp
   ·have hown' : (m.range.owner != c.last.node) = true := by simpa using hown
    have HR := jh (show badI c m = true ∧ clkI c m = c from by unfold badI clkI; rw [HMY.out]; simp [hown])
    clear hown
    go_wp2_with fail
    (refine segw (D := Only (fun k => k = gc) w1) (hO3) ?_; unfold wpMix; simp only [pick, j1, j2, j3, j4]; (repeat (show wpQuiet _ _ _ _ (_ :: _) _; go_big_quiet_step (fail))); refine qn ?_)
    go_wp2_with fail
    (refine segw (D := Only (fun k => k = gc) w1) (hO3) ?_; unfold wpMix; simp only [pick, j1, j2, j3, j4]; (repeat (show wpQuiet _ _ _ _ (_ :: _) _; go_big_quiet_step (fail))); refine qn ?_)
    go_wp2_with fail
    go_meet
    rw [HR.out.1, HR.out.2]
    exact ⟨rfl, HC3.out, hO3⟩
 case rest =>
  obtain ⟨wk, hwk⟩ : ∃ wk, wk = wc := ⟨_, rfl⟩
  subst hwk
  obtain ⟨rfl, hck, hOc⟩ := hcut
  have hcz := hOc.size
  have HCK := jh (ja hck hOc)
  have hOw : Only (fun k => k = gc) w wk := (jo HB.out.1).tr hOc
  have HOW := jh hOw
  have HM1 := jh (HB.out.2.1.only hOc hgn)
  have HZ := jh (HB.out.2.2.only hOc (by show w.heap.size + 1 ≠ gc; omega))
  clear hck hOc hOw HC b0
  cases hbad : badI c m
  ·have HBD := jh hbad
   clear hbad
   have b0 := HM1.out.cell
   have hbl := HM1.out.lt
   go_upto_region 4 with (first
    | (refine wpList_store_new (cs := #[.slice none 0 0, .int .i64 m.range.first, .int .i64 m.range.last, .int .i64 m.range.owner, .int .i64 m.range.epoch, .bool true]) rfl rfl rfl rfl rfl (by kernel_rfl) rfl (by simp [Value.oneCell']) ?_)
    | fail)
   have hb5 := (jb wk.heap.size wk).al (.cells #[.slice none 0 0, .int .i64 m.range.first, .int .i64 m.range.last, .int .i64 m.range.owner, .int .i64 m.range.epoch, .bool true] 154)
   have HP5 := jh (Blk.new wk 154 [.slice none 0 0, .int .i64 m.range.first, .int .i64 m.range.last, .int .i64 m.range.owner, .int .i64 m.range.epoch, .bool true])
   have HB5 := jh hb5
   generalize wk.alloc (.cells #[.slice none 0 0, .int .i64 m.range.first, .int .i64 m.range.last, .int .i64 m.range.owner, .int .i64 m.range.epoch, .bool true] 154) = w5 at *
   have hz5 := hb5.size
   clear hb5 b0 hbl
   have C5 := sranges_any g s _ w5.drew (HST.out _ (HOW.out.tr (jo HB5.out.drew))) HF.out.1.self (by have := HF.out.2.2.1; omega)
   unfold GotOwn ptrV at C5
   have b0 := (HM1.out.ext HB5.out).cell
   have hrl3 := HF.out.2.2.1
   go_cut [38] from 34 to 38 (fun v wx => v = .bool (hasI s.ring m.range) ∧ Below w5.heap.size w5 wx)
   case first =>
    have y0 := On.cell (b0 0 : w5.cell? ⟨w.heap.size, 0, none⟩ = some (.int .i64 m.range.first))
    have y1 := On.cell (b0 1 : w5.cell? ⟨w.heap.size, 1, none⟩ = some (.int .i64 m.range.last))
    have y2 := On.cell (b0 2 : w5.cell? ⟨w.heap.size, 2, none⟩ = some (.int .i64 m.range.owner))
    have y3 := On.cell (b0 3 : w5.cell? ⟨w.heap.size, 3, none⟩ = some (.int .i64 m.range.epoch))
    clear b0
    refine wp_region_mix (.seg [0, 2, 3] 1 (.seg [] 4 (.leaf []))) (fun w' => ∃ d : Wd (On w5), w' = d.w) (by kernel_rfl) (by kernel_rfl) (fun _ _ d _ _ h => by cases d <;> exact h) (ClsW.mk (jb _ _).drew) ?_
    unfold wpMix; simp only [pick, j1, j2, j3, j4]
    (repeat (show wpQuiet _ _ _ _ (_ :: _) _; go_big_quiet_step (fail))); refine qn ?_
    go_wp2_with fail
    refine C5.mono ?_
    clear C5
    rintro e w6 ⟨⟨v, rfl, ho⟩, hb6⟩
    obtain ⟨A, q, rfl, _⟩ := ho.form
    have HB6 := jh ((jb w5.heap.size w5).drew.tr hb6)
    have C6 := hasI_any A q s.ring m.range (fun _ => True) w6 (ho.row' range_plain fun _ _ => trivial) hrl3
    have hb6' := HB6.out
    clear ho hb6
    go_wp2_with fail
    (refine segw (D := On w5) (hb6') ?_; unfold wpMix; simp only [pick, j1, j2, j3, j4]; (repeat (show wpQuiet _ _ _ _ (_ :: _) _; go_big_quiet_step (fail))); refine qn ?_)
    go_wp2_with fail
    refine C6.mono ?_
    clear C6
    rintro e w7 ⟨rfl, hb7⟩
    have HB7 := jh (HB6.out.tr hb7)
    have hb7' := HB7.out
    clear hb7 hb6'
    go_wp2_with fail
    (refine segw (D := On w5) (hb7') ?_; unfold wpMix; simp only [pick, List.filterMap_nil]; (repeat (show wpQuiet _ _ _ _ (_ :: _) _; go_big_quiet_step (fail))); refine qn ?_)
    go_wp2_with fail
    go_meet
    exact ⟨rfl, HB7.out⟩
   case rest =>
    obtain ⟨wv, hwv⟩ : ∃ wv, wv = wc := ⟨_, rfl⟩
    subst hwv
    obtain ⟨rfl, hb7⟩ := hcut
    clear b0 C5
    have HP7 := jh (HP5.out.ext hb7)
    have HB7 := jh (HB5.out.tr hb7)
    have hz7 := HB7.out.size
    clear hb7
    have HZ7 := jh (HZ.out.ext HB7.out)
    have HM7 := jh (HM1.out.ext HB7.out)
    have HCK7 := jh (Blk.ext HCK.out.1 HB7.out)
    have HOW7 := jh (HOW.out.tr (jo HB7.out))
    cases hhas : hasI s.ring m.range
    ·have HH := jh hhas
     clear hhas
     have b0 := HM7.out.cell
     have hbl := HM7.out.lt
     go_upto_region 7 with (first
      | (refine wpList_store_new (cs := #[.int .i64 10, .int .i64 0, .int .i64 0, .bool false, .int .i64 m.floor.wall, .int .i64 m.floor.logic, .int .i64 m.floor.node, .int .i64 0, .int .i64 0, .int .i64 0, .slice none 0 0, .string ⟨#[]⟩, .slice none 0 0, .int .i64 m.range.first, .int .i64 m.range.last, .int .i64 m.range.owner, .int .i64 m.range.epoch, .slice mA m.streams.length mc]) rfl rfl rfl rfl rfl (by kernel_rfl) rfl (by simp [Value.oneCell']) ?_)
      | fail)
     have hb8 := (jb wv.heap.size wv).al (.cells #[.int .i64 10, .int .i64 0, .int .i64 0, .bool false, .int .i64 m.floor.wall, .int .i64 m.floor.logic, .int .i64 m.floor.node, .int .i64 0, .int .i64 0, .int .i64 0, .slice none 0 0, .string ⟨#[]⟩, .slice none 0 0, .int .i64 m.range.first, .int .i64 m.range.last, .int .i64 m.range.owner, .int .i64 m.range.epoch, .slice mA m.streams.length mc] 46)
     have HI8 := jh (Blk.new wv 46 [.int .i64 10, .int .i64 0, .int .i64 0, .bool false, .int .i64 m.floor.wall, .int .i64 m.floor.logic, .int .i64 m.floor.node, .int .i64 0, .int .i64 0, .int .i64 0, .slice none 0 0, .string ⟨#[]⟩, .slice none 0 0, .int .i64 m.range.first, .int .i64 m.range.last, .int .i64 m.range.owner, .int .i64 m.range.epoch, .slice mA m.streams.length mc])
     have HO8 := jh (HOW7.out.tr (jo hb8))
     have HP8 := jh (HP7.out.ext hb8)
     have HZ8 := jh (HZ7.out.ext hb8)
     have HCK8 := jh (Blk.ext HCK7.out hb8)
     have hz8 := hb8.size
     generalize wv.alloc (.cells #[.int .i64 10, .int .i64 0, .int .i64 0, .bool false, .int .i64 m.floor.wall, .int .i64 m.floor.logic, .int .i64 m.floor.node, .int .i64 0, .int .i64 0, .int .i64 0, .slice none 0 0, .string ⟨#[]⟩, .slice none 0 0, .int .i64 m.range.first, .int .i64 m.range.last, .int .i64 m.range.owner, .int .i64 m.range.epoch, .slice mA m.streams.length mc] 46) = w8 at *
     clear b0 hbl hb8 HP7 HZ7 HM7 HCK7
     have hrow8 := HM.out.1.only HO8.out (fun k hk e => HQ'.out (by have e' : k = gc := e; subst e'; exact hk.1))
     have hrec8 : RecAt w8 (fun k => Q k ∧ k < w.heap.size) (insR m) none 0 none 0 mA mc := ⟨i64_small 10 (by omega), i64_small 0 (by omega), i64_small 0 (by omega), HM.out.2.2.1, ⟨i64_small 0 (by omega), i64_small 0 (by omega), i64_small 0 (by omega)⟩, ⟨Nat.le_refl _, by decide, Rep.Row.nil_⟩, (by show (0 : Nat) ≤ _; omega), ⟨Nat.le_refl _, by decide, Rep.Row.nil_⟩, HM.out.2.1, ⟨HM.out.2.2.2.1, HM.out.2.2.2.2, hrow8⟩⟩
     have CT := tried_any g s (insR m) (.inr (.inr (.inl rfl))) none none mA 0 0 mc _ _ w8 (HST.out w8 HO8.out) HF.out.1 hrec8 HF.out.2.2.2.2.2.1 (HF.out.2.1.only HO8.out (by omega) (by omega)) (by omega) HF.out.2.2.2.2.2.2 HF.out.2.2.1 HF.out.2.2.2.1
     have hic : (insR m).cells none 0 none 0 mA mc = [.int .i64 10, .int .i64 0, .int .i64 0, .bool false, .int .i64 m.floor.wall, .int .i64 m.floor.logic, .int .i64 m.floor.node, .int .i64 0, .int .i64 0, .int .i64 0, .slice none 0 0, .string ⟨#[]⟩, .slice none 0 0, .int .i64 m.range.first, .int .i64 m.range.last, .int .i64 m.range.owner, .int .i64 m.range.epoch, .slice mA m.streams.length mc] := rfl
     rw [hic] at CT
     unfold ptrV at CT
     clear hic hrow8 hrec8
     go_wp2_with (first
      | ((with_reducible refine wpList_load_blk rfl rfl ?_ HI8.out Tryz.underlying46 rfl (by kernel_rfl) ?_); · rfl)
      | fail)
     refine CT.mono ?_
     clear CT
     rintro e wa ⟨rfl, hba⟩
     have HIa := jh (HI8.out.ext hba)
     have HOa := jh (HO8.out.tr (jo hba))
     have HPa := jh (HP8.out.ext hba)
     have HZa := jh (HZ8.out.ext hba)
     have HCKa := jh (Blk.ext HCK8.out hba)
     have hza := hba.size
     clear hba HI8 HO8 HP8 HZ8 HCK8
     by_cases hcode : (applyS s (insR m)).2 = 0
     ·have HCD := jh hcode
      rw [hcode]
      clear hcode
      have p0 := HPa.out.cell
      have pf := HPa.out.frozen
      have pl := HPa.out.lt
      go_upto_region 10 with (first
       | ((with_reducible refine wpList_load_blk rfl rfl ?_ HIa.out Tryz.underlying46 rfl (by kernel_rfl) ?_); · rfl)
       | fail)
      have hbs := ((jb wa.heap.size wa).al (.cells #[.int .i64 10, .int .i64 0, .int .i64 0, .bool false, .int .i64 m.floor.wall, .int .i64 m.floor.logic, .int .i64 m.floor.node, .int .i64 0, .int .i64 0, .int .i64 0, .slice none 0 0, .string ⟨#[]⟩, .slice none 0 0, .int .i64 m.range.first, .int .i64 m.range.last, .int .i64 m.range.owner, .int .i64 m.range.epoch, .slice mA m.streams.length mc] 46))
      have HPs := (HPa.out.set_ 0 (.slice (some ⟨wa.heap.size, 0, none⟩) 1 1)).alloc (.cells #[.int .i64 10, .int .i64 0, .int .i64 0, .bool false, .int .i64 m.floor.wall, .int .i64 m.floor.logic, .int .i64 m.floor.node, .int .i64 0, .int .i64 0, .int .i64 0, .slice none 0 0, .string ⟨#[]⟩, .slice none 0 0, .int .i64 m.range.first, .int .i64 m.range.last, .int .i64 m.range.owner, .int .i64 m.range.epoch, .slice mA m.streams.length mc] 46)
      have HZs := (HZa.out.far (p := ⟨wk.heap.size, 0, none⟩) (by have := HZ.out.lt; show w.heap.size + 1 ≠ wk.heap.size; omega) (.slice (some ⟨wa.heap.size, 0, none⟩) 1 1)).alloc (.cells #[.int .i64 10, .int .i64 0, .int .i64 0, .bool false, .int .i64 m.floor.wall, .int .i64 m.floor.logic, .int .i64 m.floor.node, .int .i64 0, .int .i64 0, .int .i64 0, .slice none 0 0, .string ⟨#[]⟩, .slice none 0 0, .int .i64 m.range.first, .int .i64 m.range.last, .int .i64 m.range.owner, .int .i64 m.range.epoch, .slice mA m.streams.length mc] 46)
      have HOs : Only (fun k => k = wk.heap.size) wa ((wa.setCell ⟨wk.heap.size, 0, none⟩ (.slice (some ⟨wa.heap.size, 0, none⟩) 1 1)).alloc (.cells #[.int .i64 10, .int .i64 0, .int .i64 0, .bool false, .int .i64 m.floor.wall, .int .i64 m.floor.logic, .int .i64 m.floor.node, .int .i64 0, .int .i64 0, .int .i64 0, .slice none 0 0, .string ⟨#[]⟩, .slice none 0 0, .int .i64 m.range.first, .int .i64 m.range.last, .int .i64 m.range.owner, .int .i64 m.range.epoch, .slice mA m.streams.length mc] 46)) := (Only.set_ (F := fun k => k = wk.heap.size) (p := ⟨wk.heap.size, 0, none⟩) rfl _).tr (jo ((jb _ _).al _))
      have hset : Only (fun k => k = wk.heap.size) wa (wa.setCell ⟨wk.heap.size, 0, none⟩ (.slice (some ⟨wa.heap.size, 0, none⟩) 1 1)) := Only.set_ (F := fun k => k = wk.heap.size) (p := ⟨wk.heap.size, 0, none⟩) rfl _
      have hrowa := (HM.out.1.only HOa.out (fun k hk e => HQ'.out (by have e' : k = gc := e; subst e'; exact hk.1))).only hset (fun k hk e => by have e' : k = wk.heap.size := e; have := hk.2; omega)
      have hrecs : RecR.rep (wa.setCell ⟨wk.heap.size, 0, none⟩ (.slice (some ⟨wa.heap.size, 0, none⟩) 1 1)) (fun k => Q k ∧ k < w.heap.size) [.int .i64 10, .int .i64 0, .int .i64 0, .bool false, .int .i64 m.floor.wall, .int .i64 m.floor.logic, .int .i64 m.floor.node, .int .i64 0, .int .i64 0, .int .i64 0, .slice none 0 0, .string ⟨#[]⟩, .slice none 0 0, .int .i64 m.range.first, .int .i64 m.range.last, .int .i64 m.range.owner, .int .i64 m.range.epoch, .slice mA m.streams.length mc] (insR m) := rec_rep.2 ⟨none, 0, none, 0, mA, mc, rfl, i64_small 10 (by omega), i64_small 0 (by omega), i64_small 0 (by omega), HM.out.2.2.1, ⟨i64_small 0 (by omega), i64_small 0 (by omega), i64_small 0 (by omega)⟩, ⟨Nat.le_refl _, by decide, Rep.Row.nil_⟩, (by show (0 : Nat) ≤ _; omega), ⟨Nat.le_refl _, by decide, Rep.Row.nil_⟩, HM.out.2.1, ⟨HM.out.2.2.2.1, HM.out.2.2.2.2, hrowa⟩⟩
      have hnew := Rep.Row.new1 (R := RecR) (w := (wa.setCell ⟨wk.heap.size, 0, none⟩ (.slice (some ⟨wa.heap.size, 0, none⟩) 1 1))) (t := 46) hrecs
      have hsz : (wa.setCell ⟨wk.heap.size, 0, none⟩ (.slice (some ⟨wa.heap.size, 0, none⟩) 1 1)).heap.size = wa.heap.size := by simp
      rw [hsz] at hnew
      have hkl := HCKa.out.lt
      have hgk : gc ≠ wk.heap.size := by omega
      have HCKs := HCKa.out.only HOs hgk
      have HOws := HOa.out.trans HOs (fun q hq e => by have e' : q = wk.heap.size := e; omega)
      have hzs := HOs.size
      generalize (wa.setCell ⟨wk.heap.size, 0, none⟩ (.slice (some ⟨wa.heap.size, 0, none⟩) 1 1)).alloc (.cells #[.int .i64 10, .int .i64 0, .int .i64 0, .bool false, .int .i64 m.floor.wall, .int .i64 m.floor.logic, .int .i64 m.floor.node, .int .i64 0, .int .i64 0, .int .i64 0, .slice none 0 0, .string ⟨#[]⟩, .slice none 0 0, .int .i64 m.range.first, .int .i64 m.range.last, .int .i64 m.range.owner, .int .i64 m.range.epoch, .slice mA m.streams.length mc] 46) = wz at *
      clear p0 pf pl hbs hset hrowa hrecs hsz HOs
      go_wp2_with (first
       | ((with_reducible refine wpList_load_blk rfl rfl ?_ HPs Tryz.underlying154 rfl (by kernel_rfl) ?_); · rfl)
       | (refine wpList_store_blk (cs := [.slice (some ⟨wa.heap.size, 0, none⟩) 1 1, .int .i64 m.range.first, .int .i64 m.range.last, .int .i64 m.range.owner, .int .i64 m.range.epoch, .bool true]) rfl rfl rfl rfl rfl HZs (by kernel_rfl) rfl (by simp [Value.oneCell']) ?_; intro w9 hB9 hO9 hz9)
       | fail)
      have hO9' := HOws.trans hO9 (fun q hq e => by have e' : q = w.heap.size + 1 := e; omega)
      have hck9 := Blk.only HCKs hO9 (by show gc ≠ w.heap.size + 1; omega)
      have hrow9 := hnew.only hO9 (fun q hq e => by
       have e' : q = w.heap.size + 1 := e
       have := HZ.out.lt
       rcases hq with hq | hq
       ·have := hq.2; omega
       ·have hq' : q = wa.heap.size := hq
        omega)
      exact bodyPost_blk rfl hB9 rfl Tryz.underlying154 rfl (by kernel_rfl) rfl ⟨.inr (.inr ⟨HBD.out, HH.out, HCD.out, _, rfl, hrow9.mono (fun q hq _ => by
       rcases hq with hq | hq
       ·exact .inr hq.1
       ·have hq' : q = wa.heap.size := hq
        exact .inl (by omega))⟩), hck9, hO9'⟩
     ·have hcode' : ((applyS s (insR m)).2 != 0) = true := by simpa using hcode
      have HCD := jh hcode
      clear hcode
      go_wp2_with (first
       | (refine wpList_store_blk (cs := [.slice none 0 0, .int .i64 0, .int .i64 0, .int .i64 0, .int .i64 0, .bool false]) rfl rfl rfl rfl rfl HZa.out (by kernel_rfl) rfl (by simp [Value.oneCell']) ?_; intro w9 hB9 hO9 hz9)
       | fail)
      have hO9' := HOa.out.trans hO9 (fun q hq e => by have e' : q = w.heap.size + 1 := e; omega)
      have hck9 := Blk.only HCKa.out hO9 (by show gc ≠ w.heap.size + 1; omega)
      exact bodyPost_blk rfl hB9 rfl Tryz.underlying154 rfl (by kernel_rfl) rfl ⟨.inl ⟨.inr ⟨HH.out, HCD.out⟩, rfl⟩, hck9, hO9'⟩
    ·have HH := jh hhas
     clear hhas
     go_wp2_with (first
      | ((with_reducible refine wpList_load_blk rfl rfl ?_ HP7.out Tryz.underlying154 rfl (by kernel_rfl) ?_); · rfl)
      | (refine wpList_store_blk (cs := [.slice none 0 0, .int .i64 m.range.first, .int .i64 m.range.last, .int .i64 m.range.owner, .int .i64 m.range.epoch, .bool true]) rfl rfl rfl rfl rfl HZ7.out (by kernel_rfl) rfl (by simp [Value.oneCell']) ?_; intro w9 hB9 hO9 hz9)
      | fail)
     have hO9' := HOW7.out.trans hO9 (fun q hq e => by have e' : q = w.heap.size + 1 := e; omega)
     have hck9 := Blk.only HCK7.out hO9 (by show gc ≠ w.heap.size + 1; omega)
     exact bodyPost_blk rfl hB9 rfl Tryz.underlying154 rfl (by kernel_rfl) rfl ⟨.inr (.inl ⟨HBD.out, HH.out, rfl⟩), hck9, hO9'⟩
  ·have HBD := jh hbad
   clear hbad
   go_wp2_with (first
    | (refine wpList_store_blk (cs := [.slice none 0 0, .int .i64 0, .int .i64 0, .int .i64 0, .int .i64 0, .bool false]) rfl rfl rfl rfl rfl HZ.out (by kernel_rfl) rfl (by simp [Value.oneCell']) ?_; intro w9 hB9 hO9 hz9)
    | fail)
   have hO9' := HOW.out.trans hO9 (fun q hq e => by have e' : q = w.heap.size + 1 := e; omega)
   have hck9 := Blk.only HCK.out.1 hO9 (by show gc ≠ w.heap.size + 1; omega)
   exact bodyPost_blk rfl hB9 rfl Tryz.underlying154 rfl (by kernel_rfl) rfl ⟨.inl ⟨.inl HBD.out, rfl⟩, hck9, hO9'⟩
end Go.Proofs.YtcmjgghkmdbphaaGreatDoor
namespace Go.Proofs.YtcmjgghkmdbphaaGreatDoor
open Go.RowKit
def Pair (a t : Int) : Prop := (a = 1 ∧ t = 2) ∨ (a = 2 ∧ t = 1)
def ckK (a : Int) : Clk := ⟨0, ⟨1, 0, a⟩⟩
theorem ckK_ok {a : Int} (h : 1 ≤ a ∧ a ≤ 5) : (ckK a).Ok := ⟨h, ⟨(by decide : (0 : Int) ≤ 1), (by decide : (1 : Int) ≤ 1125899906842624)⟩, ⟨(by decide : (0 : Int) ≤ 0), (by decide : (0 : Int) ≤ 65535)⟩, ⟨(by decide : (0 : Int) ≤ 0), (by decide : (0 : Int) ≤ 1125899906842624)⟩⟩
def xK (o e : Int) : Range := ⟨0, 2147483647, o, e⟩
def cpK (a t e : Int) (n : Str) (k : Nat) : Copy := ⟨xK t (e + 1), ⟨1, 0, a⟩, strK n k⟩
variable {a t e : Int} {n : Str} {k : Nat} {L : List Event}
theorem xK_fit (ha : 1 ≤ a ∧ a ≤ 2) (he : 1 ≤ e ∧ e ≤ 100) : (xK a e).fit := ⟨i64_of (by show (-9000000000000000000 : Int) ≤ 0 ∧ (0 : Int) ≤ 9000000000000000000; omega), i64_of (by show (-9000000000000000000 : Int) ≤ 2147483647 ∧ (2147483647 : Int) ≤ 9000000000000000000; omega), ⟨by show (-9223372036854775808 : Int) ≤ a; omega, by show a ≤ 9223372036854775807; omega⟩, ⟨by show (-9223372036854775808 : Int) ≤ e; omega, by show e ≤ 9223372036854775807; omega⟩⟩
theorem inW_of {x : Int} (h : 0 ≤ x ∧ x ≤ 1000) : inW x = true := by simp [inW]; omega
theorem inW_0 : inW 0 = true := by decide
theorem inW_1 : inW 2147483647 = true := by decide
theorem pair_bd (h : Pair a t) : (1 ≤ a ∧ a ≤ 2) ∧ (1 ≤ t ∧ t ≤ 2) ∧ a ≠ t := by unfold Pair at h; omega
theorem rg_fit (ha : 1 ≤ a ∧ a ≤ 2) (he : 1 ≤ e ∧ e ≤ 100) : ∀ x ∈ rgK a e, x.fit := fun x hx => by
 rcases List.mem_cons.1 hx with rfl | hx
 ·exact xK_fit ha he
 ·rcases List.mem_singleton.1 hx with rfl
  exact ⟨⟨by decide, by decide⟩, ⟨by decide, by decide⟩, ⟨by decide, by decide⟩, ⟨by decide, by decide⟩⟩
theorem hb_frzI (T : Tab) (F : List Rec) : frzI (hbS a a e T F L) 0 = 0 := by
 show idxI (fun r : Range => decide (r.first = 0)) (rgK a e) = 0
 unfold idxI rgK
 rw [List.findIdx?_cons]; rfl
theorem hb_frzX (T : Tab) (F : List Rec) : frzX (hbS a a e T F L) 0 = xK a e := by
 unfold frzX
 rw [hb_frzI]; rfl
theorem hb_lock (s o : Int) (T : Tab) (F : List Rec) (r : Range) : lockedS (hbS s o e T F L) r = false := by simp [lockedS, hbS]
theorem frz_check (h : Pair a t) (he : 1 ≤ e ∧ e ≤ 100) (z : Int) (hz : 0 ≤ z ∧ z ≤ 2) : checkR (frzR (xK a e) z) = 0 := by
 obtain ⟨h1, h2, h3⟩ := pair_bd h
 rw [checkR_iff]
 refine ⟨rfl, by simp [frzR, spareB, fieldsF, zeroStamp], ?_, by simp [frzR, listsBad, fieldsF]⟩
 have hw := inW_of (x := a) (by omega)
 have hw2 := inW_of (x := e) (by omega)
 have hw3 := inW_of (x := z) (by omega)
 simp [frzR, headBad, fieldsF, xK, hw, hw2, hw3, inW_0, inW_1]
theorem hb_freeze (h : Pair a t) (he : 1 ≤ e ∧ e ≤ 100) (z : Int) (hz : 0 ≤ z ∧ z ≤ 2) (T : Tab) : applyS (hbS a a e T [] L) (frzR (xK a e) z) = if z = t then (hbS a a e T [frzR (xK a e) t] L, 0) else (hbS a a e T [] L, 1) := by
 obtain ⟨h1, h2, h3⟩ := pair_bd h
 unfold applyS
 rw [if_neg (by rw [frz_check h he z hz]; decide)]
 show freezeS _ _ = _
 unfold freezeS
 rw [if_neg (by
  intro q
  rcases q with q | q
  ·exact q (by show xK a e ∈ rgK a e; simp [rgK, xK])
  ·exact q rfl)]
 rw [if_neg (by
  intro q
  rcases q with q | q
  ·have : icedS (hbS a a e T [] L) (frzR (xK a e) z).range.first = -1 := by simp [icedS, hbS, idxI]
   rw [this] at q; omega
  ·rw [hb_lock] at q; cases q)]
 by_cases hzt : z = t
 ·subst hzt
  rw [if_neg (by show ¬ (z < 1 ∨ (2 : Int) < z ∨ z = a); omega), if_pos rfl]; rfl
 ·rw [if_pos (by show z < 1 ∨ (2 : Int) < z ∨ z = a; unfold Pair at h; omega), if_neg hzt]
theorem hb_frzOk (h : Pair a t) (he : 1 ≤ e ∧ e ≤ 100) (T : Tab) : frzOk (hbS a a e T [] L) 0 := by
 obtain ⟨h1, h2, h3⟩ := pair_bd h
 refine ⟨by rw [hb_frzI]; decide, ?_, hb_lock _ _ _ _ _⟩
 rw [hb_frzX, hb_freeze h he 0 (by decide), if_neg (by omega)]
 show (1 : Int) ≠ 8
 decide
theorem weighs_K (hk : k ≤ 15) (hn : LowN n) (s o : Int) (F : List Rec) : weighs (hbS s o e (tabK n k) F L) (xK a e) ≤ 30000 ∧ (takeT (tabK n k) (xK a e)).length ≤ 1000 := by
 have ht : takeT (tabK n k) (xK a e) = strK n k := takeK n k (low_has hn a e)
 have hl : (strK n k).length ≤ 1 := by unfold strK; split <;> simp
 refine ⟨?_, by rw [ht]; omega⟩
 unfold weighs
 rw [show (hbS s o e (tabK n k) F L).table = tabK n k from rfl, ht]
 have hw : weighsS (strK n k) ≤ 20000 := by
  unfold strK
  split
  ·simp [weighsS]
  ·simp [weighsS, weighS, evsK_len]; omega
 simp only [hbS, List.length_nil]
 omega
theorem hb_gotF (h : Pair a t) (he : 1 ≤ e ∧ e ≤ 100) (hk : k ≤ 15) (hn : LowN n) {q : Ending} (hq : GotFreeze (hbS a a e (tabK n k) [] L) 0 t q) : q = .returned (.tuple #[.agg (frzV (xK a e) t).toArray, .int .i64 0]) := by
 rcases hq with ⟨_, _, _, hx⟩ | ⟨hq, _⟩
 ·refine absurd ⟨hb_frzOk h he _, ?_⟩ hx
  rw [hb_frzX]; exact weighs_K hk hn _ _ _
 ·rw [hb_frzX] at hq; exact hq
theorem hb_copies (_h : Pair a t) (hn : LowN n) : copiesP (hbS a a e (tabK n k) [frzR (xK a e) t] L) ⟨1, 0, a⟩ = [cpK a t e n k] := by
 unfold copiesP
 simp only [show (hbS a a e (tabK n k) [frzR (xK a e) t] L).frozen = [frzR (xK a e) t] from rfl, List.flatMap_cons, List.flatMap_nil, List.append_nil]
 unfold copyOf
 rw [hb_lock]
 simp only [Bool.false_eq_true, if_false]
 rw [show (hbS a a e (tabK n k) [frzR (xK a e) t] L).table = tabK n k from rfl, show (frzR (xK a e) t).range = xK a e from rfl, show takeT (tabK n k) (xK a e) = strK n k from takeK n k (low_has hn a e)]
 rfl
theorem cp_may (h : Pair a t) (he : 1 ≤ e ∧ e ≤ 100) : mayI (cpK a t e n k).range = true := by
 obtain ⟨h1, h2, h3⟩ := pair_bd h
 unfold mayI cpK xK
 simp
 omega
theorem cp_merge (h : Pair a t) : mergeC (ckK t) ⟨1, 0, a⟩ = (ckK t, 0) := by
 rcases h with ⟨rfl, rfl⟩ | ⟨rfl, rfl⟩ <;> kernel_rfl
theorem cp_bad (h : Pair a t) (he : 1 ≤ e ∧ e ≤ 100) : badI (ckK t) (cpK a t e n k) = false := by
 unfold badI
 rw [cp_may h he, show (cpK a t e n k).floor = ⟨1, 0, a⟩ from rfl, cp_merge h]
 simp [cpK, xK, ckK]
theorem cp_clk (h : Pair a t) (he : 1 ≤ e ∧ e ≤ 100) : clkI (ckK t) (cpK a t e n k) = ckK t := by
 unfold clkI
 rw [show (cpK a t e n k).floor = ⟨1, 0, a⟩ from rfl, cp_merge h, if_pos ⟨cp_may h he, rfl⟩]
theorem cp_has : hasI (rgK a e) (cpK a t e n k).range = false := by
 simp [hasI, rgK, cpK, xK, hasHit]
 omega
theorem ins_check (h : Pair a t) (he : 1 ≤ e ∧ e ≤ 100) (hk : k ≤ 15) (hn : LowN n) : checkR (insR (cpK a t e n k)) = 0 := by
 obtain ⟨h1, h2, h3⟩ := pair_bd h
 have hs : soundB ⟨1, 0, a⟩ = true := by simp only [soundB, withinB, Bool.and_eq_true, decide_eq_true_eq]; omega
 have hst : (strK n k).all streamB = true := by
  unfold strK
  split
  ·rfl
  ·simp [streamB, hn.name, strK_ok hn.name (show k ≤ 100 by omega)]
 have hl : (strK n k).length ≤ 1 := by unfold strK; split <;> simp
 rw [checkR_iff]
 refine ⟨rfl, by simp [insR, spareB, fieldsF], ?_, ?_⟩
 ·have hw := inW_of (x := t) (by omega)
  have hw2 := inW_of (x := e + 1) (by omega)
  simp [insR, headBad, fieldsF, cpK, xK, hs, hw, hw2, inW_0, inW_1]
 ·have hw := inW_of (x := ((strK n k).length : Int)) (by omega)
  have hl2 : decide ((1000 : Int) < (strK n k).length) = false := jd (by omega)
  rw [show fieldsF (insR (cpK a t e n k)).kind = { fSpan := true, fStamp := true, fStreams := true } from by simp [insR, fieldsF]]
  show ((false && _) || (true && ((decide ((1000 : Int) < (strK n k).length) || !inW (strK n k).length) || !(strK n k).all streamB))) = false
  rw [hl2, hw, hst]; rfl
theorem around_K : aroundR (rgK a e) (xK t (e + 1)) = rgK t (e + 1) := by
 have m1 : min (2147483647 : Int) (-1) = -1 := by decide
 have m2 : max (0 : Int) 2147483648 = 2147483648 := by decide
 have m3 : min (4294967295 : Int) (-1) = -1 := by decide
 have m4 : max (2147483648 : Int) 2147483648 = 2147483648 := by decide
 simp [aroundR, aroundX, rgK, xK, m1, m2, m3, m4]
theorem hb_install (h : Pair a t) (he : 1 ≤ e ∧ e ≤ 100) (hk : k ≤ 15) (hn : LowN n) : applyS (hbS t a e [] [] L) (insR (cpK a t e n k)) = (hbS t t (e + 1) (tabK n k) [] L, 0) := by
 obtain ⟨h1, h2, h3⟩ := pair_bd h
 unfold applyS
 rw [if_neg (by rw [ins_check h he hk hn]; decide)]
 show installS _ _ = _
 have hnew : newerS (hbS t a e [] [] L) (xK t (e + 1)) = true := by
  have q1 : decide (e + 1 ≤ e) = false := jd (by omega)
  simp [newerS, hbS, rgK, xK, h3]
  exact q1
 have hspan : spanB (xK t (e + 1)) = true := by
  have q1 : decide (1 ≤ e + 1) = true := decide_eq_true (by omega)
  have q2 : decide (e + 1 ≤ 1099511627776) = true := decide_eq_true (by omega)
  unfold spanB xK
  simp only [q1, q2]
  rfl
 have hin : ((insR (cpK a t e n k)).streams.any fun x => !(xK t (e + 1)).has (hashS x.name)) = false := by
  show ((strK n k).any fun x => !(xK t (e + 1)).has (hashS x.name)) = false
  have := low_has hn t (e + 1)
  unfold inR at this
  unfold strK
  split
  ·rfl
  ·have hx : (xK t (e + 1)).has (hashS n) = true := this
   simp [hx]
 have hp : putT (strK n k) [] = (tabK n k, 0) := putK hn.name (by omega)
 unfold installS
 rw [show (insR (cpK a t e n k)).range = xK t (e + 1) from rfl, show (insR (cpK a t e n k)).streams = strK n k from rfl, show (hbS t a e [] [] L).ring = rgK a e from rfl, show (hbS t a e [] [] L).table = [] from rfl, hnew, hspan, hp, around_K, fresh_nil, drop_nil, hp]
 rw [show ((strK n k).any fun x => !(xK t (e + 1)).has (hashS x.name)) = false from hin]
 simp [rgK, hbS]
theorem hb_gotI (h : Pair a t) (he : 1 ≤ e ∧ e ≤ 100) (hk : k ≤ 15) (hn : LowN n) {B : Nat} {P : Nat → Prop} {q : Ending} {W : World} (hq : GotPlanI B P (hbS t a e [] [] L) (ckK t) (cpK a t e n k) q W) :
 ∃ A, q = .returned (.agg (planI (.slice A 1 1) (xK t (e + 1))).toArray) ∧ RecR.Row W (fun k => B ≤ k ∨ P k) A [insR (cpK a t e n k)] := by
 have hx : hasI (hbS t a e [] [] L).ring (cpK a t e n k).range = false := cp_has
 rcases hq with ⟨h1 | ⟨_, h1⟩, _⟩ | ⟨_, h1, _⟩ | ⟨_, _, _, A, h1, h2⟩
 ·rw [cp_bad h he] at h1; cases h1
 ·rw [hb_install h he hk hn] at h1; exact absurd rfl h1
 ·rw [hx] at h1; cases h1
 ·exact ⟨A, h1, h2⟩
theorem relR_check (h : Pair a t) (he : 1 ≤ e ∧ e ≤ 100) : checkR (relR (xK t (e + 1))) = 0 := by
 obtain ⟨h1, h2, h3⟩ := pair_bd h
 rw [checkR_iff]
 refine ⟨rfl, by simp [relR, spareB, fieldsF, zeroStamp], ?_, by simp [relR, listsBad, fieldsF]⟩
 have hw := inW_of (x := t) (by omega)
 have hw2 := inW_of (x := e + 1) (by omega)
 simp [relR, headBad, fieldsF, xK, hw, hw2, inW_0, inW_1]
theorem hb_relP (T : Tab) : relP (hbS a a e T [frzR (xK a e) t] L) (xK t (e + 1)) = [relR (xK t (e + 1))] := by
 unfold relP
 simp only [hbS, List.any_cons, List.any_nil, Bool.or_false]
 rw [if_pos (by simp [relHit, frzR, xK])]
theorem hb_release (h : Pair a t) (he : 1 ≤ e ∧ e ≤ 99) (hk : k ≤ 15) (hn : LowN n) : applyS (hbS a a e (tabK n k) [frzR (xK a e) t] L) (relR (xK t (e + 1))) = (hbS a t (e + 1) [] [] L, 0) := by
 obtain ⟨h1, h2, h3⟩ := pair_bd h
 unfold applyS
 rw [if_neg (by rw [relR_check h (by omega)]; decide)]
 rw [show doS (hbS a a e (tabK n k) [frzR (xK a e) t] L) (relR (xK t (e + 1))) = releaseS (hbS a a e (tabK n k) [frzR (xK a e) t] L) (relR (xK t (e + 1))) from rfl]
 have hset : setR (rgK a e) (xK t (e + 1)) = (rgK t (e + 1), 0) := by
  have hs := rg_sound (o := a) (e := e) h1 (by omega)
  have hat : atR (rgK a e) 0 = 0 := by
   unfold atR
   rw [if_pos hs]
   unfold rgK idxI
   rw [List.findIdx?_cons]; rfl
  have ho : ownedB (xK t (e + 1)) = true := by
   unfold ownedB xK
   dsimp only
   rw [decide_eq_true (show 1 ≤ t by omega), decide_eq_true (show t ≤ 5 by omega), decide_eq_true (show 1 ≤ e + 1 by omega), decide_eq_true (show e + 1 ≤ 1099511627776 by omega)]; rfl
  unfold setR
  rw [show (xK t (e + 1)).first = 0 from rfl, hat, hs, ho]
  simp [rgK, xK]
 unfold releaseS
 have hidx : idxI (fun f : Rec => decide (f.range.first = (relR (xK t (e + 1))).range.first) && decide (f.range.last = (relR (xK t (e + 1))).range.last)) (hbS a a e (tabK n k) [frzR (xK a e) t] L).frozen = 0 := by
  simp [hbS, idxI, relR, frzR, xK]
 have hep : (((hbS a a e (tabK n k) [frzR (xK a e) t] L).frozen.map Rec.range).getD (0 : Int).toNat zeroRange).epoch = e := rfl
 rw [hidx]
 dsimp only
 rw [if_neg (by decide), hep, if_neg (by show ¬ (t = a ∨ t < 1 ∨ (2 : Int) < t ∨ e + 1 ≤ e); omega)]
 rw [show (relR (xK t (e + 1))).range = xK t (e + 1) from rfl, show (hbS a a e (tabK n k) [frzR (xK a e) t] L).ring = rgK a e from rfl, hset, show (hbS a a e (tabK n k) [frzR (xK a e) t] L).table = tabK n k from rfl, freshK hn.name (by omega), show dropT (tabK n k) (xK t (e + 1)) = [] from dropK (low_has hn t (e + 1))]
 rfl
theorem costK (n : Str) (i : Nat) : costR (cmR n i) = 1 := rfl
theorem inv_K (h : LowN n) : ∀ k : Nat, k ≤ 100 → Inv (hbS 1 1 1 (tabK n k) [] (evsK n k)) k
 | 0, _ => inv_new fr_new
 | k + 1, hk => by
   have h1 := apply_inv (r := cmR n k) (inv_K h k (by omega)) (by omega)
   rw [commitK h (by omega), costK] at h1
   rw [evsK_succ]
   exact h1
theorem strK_len (n : Str) (k : Nat) : (strK n k).length ≤ 1 := by unfold strK; split <;> simp
theorem strK_each {n : Str} {k : Nat} (hk : k ≤ 15) : ∀ s ∈ strK n k, s.events.length ≤ 40000 ∧ s.keys.length ≤ 40000 := by
 intro s hs
 unfold strK at hs
 split at hs
 ·cases hs
 ·rcases List.mem_singleton.1 hs with rfl
  rw [show (⟨n, evsK n k, []⟩ : Stream).events = evsK n k from rfl, evsK_len]
  exact ⟨by omega, Nat.zero_le _⟩
theorem strK_weight {n : Str} {k : Nat} (hk : k ≤ 15) : weights (strK n k) ≤ 50000000 := by
 unfold strK
 split
 ·simp [weights]
 ·simp [weights, Stream.weight, evsK_len]; omega
theorem insK_fair (hk : k ≤ 15) : (insR (cpK a t e n k)).Fair ∧ PutFair (strK n k) :=
 ⟨⟨by show (0 : Nat) ≤ _; omega, (fun p hp => by cases hp), by show (0 : Nat) ≤ _; omega, by show (strK n k).length ≤ _; have := strK_len n k; omega, strK_weight hk, strK_each hk⟩, by have := strK_len n k; omega, strK_each hk⟩
theorem rel_fair {x : Range} : (relR x).Fair := ⟨by show (0 : Nat) ≤ _; decide, (fun p hp => by cases hp), by show (0 : Nat) ≤ _; decide, by show (0 : Nat) ≤ _; decide, by show (0 : Nat) ≤ _; decide, fun s hs => by cases hs⟩
theorem rel_put {x : Range} : PutFair (relR x).streams := ⟨by show (0 : Nat) ≤ _; decide, fun s hs => by cases hs⟩
theorem ins_cost (hk : k ≤ 15) : costR (insR (cpK a t e n k)) ≤ 16 := by
 show 0 + ((strK n k).map fun s => s.events.length + s.keys.length + 1).sum ≤ 16
 unfold strK
 split
 ·simp
 ·simp [evsK_len]; omega
theorem names_all : (List.range 676).all (fun k => nameB (alikeN k)) = true := by decide +kernel
theorem names_ok {k : Nat} (h : k < 676) : nameB (alikeN k) = true := List.all_eq_true.1 names_all k (List.mem_range.2 h)
theorem name_low : hashS (alikeN 1) ≤ 2147483647 := by decide +kernel
theorem of_low {s : Str} (h : hashS s ≤ 2147483647) : ofR (rgK 1 1) s = (⟨0, 2147483647, 1, 1⟩, true) := by
 have hb := hashS_bd s
 unfold ofR findR atR
 rw [if_pos (rg_sound (by decide) (by decide))]
 have h0 : idxI (fun r : Range => r.has (hashS s)) (rgK 1 1) = 0 := by
  have : (Range.mk 0 2147483647 1 1).has (hashS s) = true := by simp [Range.has]; omega
  unfold rgK idxI
  rw [List.findIdx?_cons, this]; rfl
 rw [h0]; rfl
theorem of_high {s : Str} (h : ¬ hashS s ≤ 2147483647) : ofR (rgK 1 1) s = (⟨2147483648, 4294967295, 2, 1⟩, true) := by
 have hb := hashS_bd s
 unfold ofR findR atR
 rw [if_pos (rg_sound (by decide) (by decide))]
 have h0 : idxI (fun r : Range => r.has (hashS s)) (rgK 1 1) = 1 := by
  have h1 : (Range.mk 0 2147483647 1 1).has (hashS s) = false := by simp [Range.has]; omega
  have h2 : (Range.mk 2147483648 4294967295 2 1).has (hashS s) = true := by simp [Range.has]; omega
  unfold rgK idxI
  rw [List.findIdx?_cons, h1, List.findIdx?_cons, h2]; rfl
 rw [h0]; rfl
end Go.Proofs.YtcmjgghkmdbphaaGreatDoor
namespace Go.Proofs.YtcmjgghkmdbphaaGreatDoor
open Go.RowKit
def twoP (a : Int) (x y : Nat) : List Value := if a = 1 then [.pointer (some ⟨x, 0, none⟩), .pointer (some ⟨y, 0, none⟩)] else [.pointer (some ⟨y, 0, none⟩), .pointer (some ⟨x, 0, none⟩)]
theorem twoP_swap {a t : Int} (h : Pair a t) (x y : Nat) : twoP a x y = twoP t y x := by
 rcases h with ⟨rfl, rfl⟩ | ⟨rfl, rfl⟩ <;> rfl
structure HbR (w : World) (sb cb ga gt ca ct : Nat) (a t : Int) (Pa Pt : Nat → Prop) (sa st : St) (W : World) : Prop where
 arS : Blk W sb 162 (twoP a ga gt)
 arC : Blk W cb 163 (twoP a ca ct)
 sta : StAt W Pa ga sa
 stt : StAt W Pt gt st
 cka : CkAt W ca (ckK a)
 ckt : CkAt W ct (ckK t)
 nd : [sb, cb, ga, gt, ca, ct].Nodup
 ava : ∀ x ∈ [ga, gt, ca, ct], ¬ Pa x
 avt : ∀ x ∈ [ga, gt, ca, ct], ¬ Pt x
 ge : ∀ x ∈ [sb, cb, ga, gt, ca, ct], w.heap.size ≤ x ∧ x < W.heap.size
 tabs : Tabs W
 below : Below w.heap.size w W
variable {w W W' : World} {sb cb ga gt ca ct : Nat} {a t : Int} {Pa Pt : Nat → Prop} {sa st sa' st' : St}
theorem HbR.ext (h : HbR w sb cb ga gt ca ct a t Pa Pt sa st W) (hb : Below W.heap.size W W') : HbR w sb cb ga gt ca ct a t (fun k => Pa k ∧ k < W.heap.size) (fun k => Pt k ∧ k < W.heap.size) sa st W' :=
 ⟨h.arS.ext hb, h.arC.ext hb, by obtain ⟨v, x, d⟩ := h.sta; exact ⟨v, x.ext hb, d.low.same (js hb)⟩, by obtain ⟨v, x, d⟩ := h.stt; exact ⟨v, x.ext hb, d.low.same (js hb)⟩,
  Blk.ext h.cka hb, Blk.ext h.ckt hb, h.nd, fun x hx hk => h.ava x hx hk.1, fun x hx hk => h.avt x hx hk.1, fun x hx => ⟨(h.ge x hx).1, Nat.lt_of_lt_of_le (h.ge x hx).2 hb.size⟩, h.tabs.below hb, h.below.tr hb⟩
theorem HbR.swap (h : HbR w sb cb ga gt ca ct a t Pa Pt sa st W) (hp : Pair a t) : HbR w sb cb gt ga ct ca t a Pt Pa st sa W := by
 have h1 := h.arS
 have h2 := h.arC
 rw [twoP_swap hp] at h1 h2
 refine ⟨h1, h2, h.stt, h.sta, h.ckt, h.cka, ?_, fun x hx => h.avt x (by simp at hx ⊢; omega), fun x hx => h.ava x (by simp at hx ⊢; omega), fun x hx => h.ge x (by simp at hx ⊢; omega), h.tabs, h.below⟩
 have := h.nd
 simp only [List.nodup_cons, List.mem_cons, List.not_mem_nil, or_false, not_or] at this ⊢
 obtain ⟨⟨a1, a2, a3, a4, a5⟩, ⟨b2, b3, b4, b5⟩, ⟨c3, c4, c5⟩, ⟨d4, d5⟩, e5, f⟩ := this
 exact ⟨⟨a1, a3, a2, a5, a4⟩, ⟨b3, b2, b5, b4⟩, ⟨fun e => c3 e.symm, d5, d4⟩, ⟨c5, c4⟩, fun e => e5 e.symm, f⟩
theorem HbR.ne (h : HbR w sb cb ga gt ca ct a t Pa Pt sa st W) : (sb ≠ cb ∧ sb ≠ ga ∧ sb ≠ gt ∧ sb ≠ ca ∧ sb ≠ ct) ∧ (cb ≠ ga ∧ cb ≠ gt ∧ cb ≠ ca ∧ cb ≠ ct) ∧ (ga ≠ gt ∧ ga ≠ ca ∧ ga ≠ ct) ∧ (gt ≠ ca ∧ gt ≠ ct) ∧ ca ≠ ct := by
 have := h.nd
 simp only [List.nodup_cons, List.mem_cons, List.not_mem_nil, or_false, not_or] at this
 obtain ⟨⟨a1, a2, a3, a4, a5⟩, ⟨b2, b3, b4, b5⟩, ⟨c3, c4, c5⟩, ⟨d4, d5⟩, e5, f⟩ := this
 exact ⟨⟨a1, a2, a3, a4, a5⟩, ⟨b2, b3, b4, b5⟩, ⟨c3, c4, c5⟩, ⟨d4, d5⟩, e5⟩
theorem HbR.outA (h : HbR w sb cb ga gt ca ct a t Pa Pt sa st W) (h2 : 2 ≤ w.heap.size) (hs : StAt W' (fun k => Pa k ∨ W.heap.size ≤ k) ga sa') (hO : Only (· = ga) W W') : HbR w sb cb ga gt ca ct a t (fun k => Pa k ∨ W.heap.size ≤ k) (fun k => Pt k ∧ k < W.heap.size) sa' st W' := by
 obtain ⟨⟨a1, a2, a3, a4, a5⟩, ⟨b2, b3, b4, b5⟩, ⟨c3, c4, c5⟩, ⟨d4, d5⟩, e5⟩ := h.ne
 have hge := (h.ge ga (by simp)).1
 refine ⟨Blk.only h.arS hO a2, Blk.only h.arC hO b2, hs, ?_, Blk.only h.cka hO (fun e => c4 e.symm), Blk.only h.ckt hO (fun e => c5 e.symm), h.nd, fun x hx hk => ?_, fun x hx hk => h.avt x hx hk.1, fun x hx => ⟨(h.ge x hx).1, Nat.lt_of_lt_of_le (h.ge x hx).2 hO.size⟩,
  h.tabs.only hO (by intro e; have e' : 0 = ga := e; omega) (by intro e; have e' : 1 = ga := e; omega), h.below.trans (hO.low (fun k e => by have e' : k = ga := e; omega) h.below.size)⟩
 ·obtain ⟨v, x, d⟩ := h.stt
  exact ⟨v, x.only hO (fun e => c3 e.symm), d.low.same (Same.of_only hO fun k hk e => by have e' : k = ga := e; subst e'; exact h.avt k (by simp) hk.1)⟩
 ·rcases hk with hk | hk
  ·exact h.ava x hx hk
  ·have := (h.ge x (List.mem_cons_of_mem _ (List.mem_cons_of_mem _ hx))).2; omega
theorem HbR.outT (h : HbR w sb cb ga gt ca ct a t Pa Pt sa st W) (hp : Pair a t) (h2 : 2 ≤ w.heap.size) (hs : StAt W' (fun k => Pt k ∨ W.heap.size ≤ k) gt st') (hO : Only (· = gt) W W') : HbR w sb cb ga gt ca ct a t (fun k => Pa k ∧ k < W.heap.size) (fun k => Pt k ∨ W.heap.size ≤ k) sa st' W' :=
 ((h.swap hp).outA h2 hs hO).swap (by rcases hp with ⟨x, y⟩ | ⟨x, y⟩; exact .inr ⟨y, x⟩; exact .inl ⟨y, x⟩)
theorem HbR.clkT (h : HbR w sb cb ga gt ca ct a t Pa Pt sa st W) (h2 : 2 ≤ w.heap.size) (hc : CkAt W' ct (ckK t)) (hO : Only (· = ct) W W') : HbR w sb cb ga gt ca ct a t (fun k => Pa k ∧ k < W.heap.size) (fun k => Pt k ∧ k < W.heap.size) sa st W' := by
 obtain ⟨⟨a1, a2, a3, a4, a5⟩, ⟨b2, b3, b4, b5⟩, ⟨c3, c4, c5⟩, ⟨d4, d5⟩, e5⟩ := h.ne
 have hge := (h.ge ct (by simp)).1
 refine ⟨Blk.only h.arS hO a5, Blk.only h.arC hO b5, ?_, ?_, Blk.only h.cka hO e5, hc, h.nd, fun x hx hk => h.ava x hx hk.1, fun x hx hk => h.avt x hx hk.1, fun x hx => ⟨(h.ge x hx).1, Nat.lt_of_lt_of_le (h.ge x hx).2 hO.size⟩,
  h.tabs.only hO (by intro e; have e' : 0 = ct := e; omega) (by intro e; have e' : 1 = ct := e; omega), h.below.trans (hO.low (fun k e => by have e' : k = ct := e; omega) h.below.size)⟩
 ·obtain ⟨v, x, d⟩ := h.sta
  exact ⟨v, x.only hO c5, d.low.same (Same.of_only hO fun k hk e => by have e' : k = ct := e; subst e'; exact h.ava k (by simp) hk.1)⟩
 ·obtain ⟨v, x, d⟩ := h.stt
  exact ⟨v, x.only hO d5, d.low.same (Same.of_only hO fun k hk e => by have e' : k = ct := e; subst e'; exact h.avt k (by simp) hk.1)⟩
end Go.Proofs.YtcmjgghkmdbphaaGreatDoor
namespace Go.Proofs.YtcmjgghkmdbphaaGreatDoor
open Go.RowKit
theorem sameEvents_eq {l : List Event} (A A' : Option Addr) (c c' : Nat) (P P' : Nat → Prop) (w : World) (h : EventR.Row w P A l) (h' : EventR.Row w P' A' l) (hl : l.length ≤ 1000000) :
 Calls Tryz.prog 32 #[.slice A l.length c, .slice A' l.length c'] w fun e w' => e = .returned (.bool true) ∧ Below w.heap.size w w' := by
 have HR := jh (ja h h')
 clear h h'
 go_enter Tryz.func32, Tryz.ntmps32
 go_wp2_with fail
 go_loopw [5] (fun iv wr => ∃ k : Nat, k ≤ l.length ∧ iv = .int .i64 k ∧ Below w.heap.size w wr) (fun iv _ => l.length - (intOf iv).toNat)
 case atStart => exact ⟨0, Nat.zero_le _, rfl, jb _ _⟩
 case round =>
  obtain ⟨k, hk, rfl, hbl⟩ := hrel
  by_cases hlt : k < l.length
  ·have hlt' : (k : Int) < l.length := by omega
   have hlk := jg hlt
   obtain ⟨b, o, cs, hA, _, _, hr, hcs⟩ := (HR.out.1.ext hbl).at_ hlk
   obtain ⟨b', o', cs', hA', _, _, hr', hcs'⟩ := (HR.out.2.ext hbl).at_ hlk
   generalize l[k] = x at *
   obtain ⟨rfl, _⟩ := event_rep.1 hr
   obtain ⟨rfl, _⟩ := event_rep.1 hr'
   subst hA hA'
   have c0 := hcs 0 _ rfl; have c1 := hcs 1 _ rfl; have c2 := hcs 2 _ rfl; have c3 := hcs 3 _ rfl; have c4 := hcs 4 _ rfl; have c5 := hcs 5 _ rfl; have c6 := hcs 6 _ rfl; simp only [EventR_size, Nat.add_zero] at c0 c1 c2 c3 c4 c5 c6
   have d0 := hcs' 0 _ rfl; have d1 := hcs' 1 _ rfl; have d2 := hcs' 2 _ rfl; have d3 := hcs' 3 _ rfl; have d4 := hcs' 4 _ rfl; have d5 := hcs' 5 _ rfl; have d6 := hcs' 6 _ rfl; simp only [EventR_size, Nat.add_zero] at d0 d1 d2 d3 d4 d5 d6
   clear hlk hr hr' hcs hcs'
   have HB := jh hbl
   clear hbl
   go_wp2_with fail
   go_quiet (fail)
   go_wp2_with fail
   go_round
   case rel => exact ⟨k + 1, by omega, by go_num, HB.out.drewN _⟩
   case measure => simp [intOf]; omega
  ·have HB := jh hbl
   clear hbl
   go_wp2_with fail
   go_ret
   exact ⟨rfl, HB.out⟩
theorem sameStreams_eq {l : List Stream} (A A' : Option Addr) (c c' : Nat) (P P' : Nat → Prop) (w : World) (h : StreamR.Row w P A l) (h' : StreamR.Row w P' A' l) (hl : l.length ≤ 1000000) (hd : ∀ s ∈ l, s.events.length ≤ 1000000 ∧ s.keys.length ≤ 1000000) :
 Calls Tryz.prog 26 #[.slice A l.length c, .slice A' l.length c'] w fun e w' => e = .returned (.bool true) ∧ Below w.heap.size w w' := by
 have HR := jh (ja h (ja h' hd))
 clear h h' hd
 go_enter Tryz.func26, Tryz.ntmps26
 go_wp2_with fail
 go_loopw [5] (fun iv wr => ∃ k : Nat, k ≤ l.length ∧ iv = .int .i64 k ∧ Below w.heap.size w wr) (fun iv _ => l.length - (intOf iv).toNat)
 case atStart => exact ⟨0, Nat.zero_le _, rfl, jb _ _⟩
 case round =>
  obtain ⟨k, hk, rfl, hbl⟩ := hrel
  by_cases hlt : k < l.length
  ·have hlt' : (k : Int) < l.length := by omega
   have hlk := jg hlt
   have hdk := HR.out.2.2 _ (List.getElem_mem hlt)
   obtain ⟨b, o, cs, hA, _, _, hr, hcs⟩ := (HR.out.1.ext hbl).at_ hlk
   obtain ⟨b', o', cs', hA', _, _, hr', hcs'⟩ := (HR.out.2.1.ext hbl).at_ hlk
   generalize l[k] = x at *
   obtain ⟨eA, ec, kA, kc, rfl, _, _, _, he, _, _, hk1⟩ := stream_rep.1 hr
   obtain ⟨eA', ec', kA', kc', rfl, _, _, _, he', _, _, hk2⟩ := stream_rep.1 hr'
   subst hA hA'
   have c0 := hcs 0 _ rfl
   have c1 := hcs 1 _ rfl
   have c2 := hcs 2 _ rfl
   have d0 := hcs' 0 _ rfl
   have d1 := hcs' 1 _ rfl
   have d2 := hcs' 2 _ rfl
   simp only [StreamR_size, Nat.add_zero] at c0 c1 c2 d0 d1 d2
   have HC := jh (ja c2 d2)
   have c0 := On.cell c0
   have c1 := On.cell c1
   have c2 := On.cell c2
   have d0 := On.cell d0
   have d1 := On.cell d1
   have d2 := On.cell d2
   have HE := jh (ja he (ja he' (ja hk1 (ja hk2 hdk))))
   have HB := jh hbl
   clear hlk hr hr' hcs hcs' he he' hk1 hk2 hbl hdk
   go_upto_region 6 with fail
   refine wp_region_mix (.seg [0, 1, 2, 3, 4, 5, 6, 7, 8, 9, 10, 11, 12, 13, 14, 15, 16, 17, 18, 19, 20, 21] 22 (.leaf [23, 24, 25, 26, 27, 28, 29, 30, 31, 32, 33, 34, 35, 36, 37, 38, 39])) (fun w' => ∃ d : Wd (On wr), w' = d.w) (by kernel_rfl) (by kernel_rfl) (fun _ _ d _ _ h => by cases d <;> exact h) (ClsW.mk (jb _ _).drew) ?_
   unfold wpMix; simp only [pick, j1, j2, j3, j4]
   (repeat (show wpQuiet _ _ _ _ (_ :: _) _; go_big_quiet_step (fail))); refine qn ?_
   have CE := sameEvents_eq eA eA' ec ec' _ _ wr.drew (HE.out.1.ext (jb _ _).drew) (HE.out.2.1.ext (jb _ _).drew) HE.out.2.2.2.2.1
   go_wp2_with fail
   refine CE.mono ?_
   clear CE
   rintro e w2 ⟨rfl, hb2'⟩
   have hb2 : Below wr.heap.size wr w2 := (jb _ wr).drew.tr hb2'
   clear hb2'
   go_wp2_with fail
   (refine segw (D := On wr) (hb2) ?_; unfold wpMix; simp only [pick, j1, j2, j3, j4]; (repeat (show wpQuiet _ _ _ _ (_ :: _) _; go_big_quiet_step (fail))); refine qn ?_)
   have HB2 := jh (ja (HB.out.tr hb2) hb2)
   clear c0 c1 c2 d0 d1 d2 hb2
   go_wp2_with fail
   have z2 := HC.out.1
   have z2' := HC.out.2
   have y2 : w2.cell? ⟨b, o + k * 3 + 2, none⟩ = some (.slice kA x.keys.length kc) := (Below.cell HB2.out.2 (p := ⟨b, o + k * 3 + 2, none⟩) (lt_of_cell z2)).trans z2
   have y2' : w2.cell? ⟨b', o' + k * 3 + 2, none⟩ = some (.slice kA' x.keys.length kc') := (Below.cell HB2.out.2 (p := ⟨b', o' + k * 3 + 2, none⟩) (lt_of_cell z2')).trans z2'
   clear z2 z2'
   have HY := jh (ja y2 y2')
   clear y2 y2'
   go_loopw [6] (fun jv wx => ∃ j : Nat, j ≤ x.keys.length ∧ jv = .int .i64 j ∧ Below w2.heap.size w2 wx) (fun jv _ => x.keys.length - (intOf jv).toNat)
   case atStart => exact ⟨0, Nat.zero_le _, rfl, jb _ _⟩
   case round =>
    obtain ⟨j, hj, rfl, hbj⟩ := hrel
    have y2 : wr.cell? ⟨b, o + k * 3 + 2, none⟩ = some (.slice kA x.keys.length kc) := (Below.cell hbj (p := ⟨b, o + k * 3 + 2, none⟩) (lt_of_cell HY.out.1)).trans HY.out.1
    have y2' : wr.cell? ⟨b', o' + k * 3 + 2, none⟩ = some (.slice kA' x.keys.length kc') := (Below.cell hbj (p := ⟨b', o' + k * 3 + 2, none⟩) (lt_of_cell HY.out.2)).trans HY.out.2
    have hkl := HE.out.2.2.2.2.2
    by_cases hjt : j < x.keys.length
    ·have hjt' : (j : Int) < x.keys.length := by omega
     have hlj := jg hjt
     obtain ⟨q, p, cs, hA, _, _, hr, hcs⟩ := ((HE.out.2.2.1.ext HB2.out.2).ext hbj).at_ hlj
     obtain ⟨q', p', cs', hA', _, _, hr', hcs'⟩ := ((HE.out.2.2.2.1.ext HB2.out.2).ext hbj).at_ hlj
     generalize x.keys[j] = y at *
     obtain ⟨rfl, _⟩ := known_rep.1 hr
     obtain ⟨rfl, _⟩ := known_rep.1 hr'
     subst hA hA'
     have c0 := hcs 0 _ rfl; have c1 := hcs 1 _ rfl; have c2 := hcs 2 _ rfl; have c3 := hcs 3 _ rfl; have c4 := hcs 4 _ rfl; simp only [KnownR_size, Nat.add_zero] at c0 c1 c2 c3 c4
     have d0 := hcs' 0 _ rfl
     have d1 := hcs' 1 _ rfl
     have d2 := hcs' 2 _ rfl
     have d3 := hcs' 3 _ rfl
     have d4 := hcs' 4 _ rfl
     simp only [KnownR_size, Nat.add_zero] at d0 d1 d2 d3 d4
     clear hlj hr hr' hcs hcs'
     have HJ := jh hbj
     clear hbj
     go_wp2_with fail
     go_quiet (fail)
     go_wp2_with fail
     go_round
     case rel => exact ⟨j + 1, by omega, by go_num, HJ.out.drewN _⟩
     case measure => simp [intOf]; omega
    ·have hjn : (x.keys.length : Int) ≤ j := by omega
     have HJ := jh hbj
     clear hbj
     go_wp2_with fail
     go_round
     case rel => exact ⟨k + 1, by omega, by go_num, HB2.out.1.tr HJ.out⟩
     case measure => simp [intOf]; omega
  ·have HB := jh hbl
   clear hbl
   go_wp2_with fail
   go_ret
   exact ⟨rfl, HB.out⟩
end Go.Proofs.YtcmjgghkmdbphaaGreatDoor
namespace Go.Proofs.YtcmjgghkmdbphaaGreatDoor
open Go.RowKit
section
variable {P : Program} {ops : Array Oper} {rest : List Oper} {o : Oper} {a : Act}
theorem run_load_at {w : World} {ty : TypeId} {b off : Nat} {cs : List Value} {d : TypeDesc} (hg : ∀ j u, cs[j]? = some u → w.cell? ⟨b, off + j, none⟩ = some u) (hu : P.underlying ty = some d) (hd : (match d with | .struct _ | .array _ _ => true | _ => false) = true) (hi : (P.info? ty).map (·.size) = some cs.length) :
 (loadVar ty ⟨b, off, none⟩).run P w = .ok (.agg cs.toArray) w := by
 have hl : (loadCells ⟨b, off, none⟩ cs.length).run P w = .ok cs.toArray w :=
  run_loadCells_list (P := P) w ⟨b, off, none⟩ cs (fun j v hv => by rw [add_off]; exact hg j v hv)
 cases hq : P.info? ty with
 | none => simp [hq] at hi
 | some i =>
   have hs : i.size = cs.length := by simpa [hq] using hi
   have hagg : (isAgg ty).run P w = .ok true w := by
    unfold isAgg
    rw [Sem.run_bind, run_underlying hu w]
    cases d <;> simp_all
   simp [loadVar, Sem.run_bind, hagg, sizeOf, typeInfo, hq, hs, hl]
theorem wpQuiet_load_at {C : World → Prop} {Q : Act → Prop} (hw : Region.wanted o (yielded ops a.tmps) = true) {ty : TypeId} {x : Operand} (ho : o.op = .load ty x) {b off : Nat} (hx : a.eval x = .pointer (some ⟨b, off, none⟩)) {cs : List Value} {d : TypeDesc}
 (hg : ∀ w, C w → ∀ j u, cs[j]? = some u → w.cell? ⟨b, off + j, none⟩ = some u) (hu : P.underlying ty = some d) (hd : (match d with | .struct _ | .array _ _ => true | _ => false) = true) (hi : (P.info? ty).map (·.size) = some cs.length)
 (h : wpQuiet P ops C Q rest (a.put o.dst (.agg cs.toArray))) : wpQuiet P ops C Q (o :: rest) a := by
 refine BigFrame.wpQuiet_want hw fun K hK => ⟨.agg cs.toArray, fun w hC => ?_, hK _ h⟩
 unfold Oper.quietAt execOp
 simp only [ho, hx, Instr.loadAt, Instr.sureAddr, Sem.run_bind, Sem.run_pure, Result.andThen_ok, run_load_at (hg w hC) hu hd hi, Oper.quietUpon, and_self]
end
end Go.Proofs.YtcmjgghkmdbphaaGreatDoor
