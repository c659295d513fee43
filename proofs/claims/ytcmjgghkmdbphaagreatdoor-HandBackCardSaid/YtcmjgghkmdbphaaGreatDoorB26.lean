/- HandBack: the law's walk. -/
import Derived.Test.YtcmjgghkmdbphaaGreatDoorB25
import Derived.Test.YtcmjgghkmdbphaaGreatDoorB22
import Derived.Test.YtcmjgghkmdbphaaGreatDoorB08
set_option maxRecDepth 20000
set_option maxHeartbeats 25600000
namespace Go.Proofs.YtcmjgghkmdbphaaGreatDoor
open Go.RowKit
def hb2S : St := ⟨2, 2, 0, 0, (newR 2).1, [], [], [], [], [], []⟩
theorem hb2_new : newS 2 2 = some hb2S := by kernel_rfl
theorem hb1_eq : frS = hbS 1 1 1 [] [] [] := by kernel_rfl
theorem hb2_eq : hb2S = hbS 2 1 1 [] [] [] := by kernel_rfl
structure HbH (w : World) (sb cb ga ca : Nat) (Pa : Nat → Prop) (W : World) : Prop where
 arS : Blk W sb 162 [.pointer (some ⟨ga, 0, none⟩), .pointer none]
 arC : Blk W cb 163 [.pointer (some ⟨ca, 0, none⟩), .pointer none]
 sta : StAt W Pa ga frS
 cka : CkAt W ca (ckK 1)
 ne : sb ≠ cb ∧ sb ≠ ga ∧ sb ≠ ca ∧ cb ≠ ga ∧ cb ≠ ca ∧ ga ≠ ca
 ava : ∀ k, Pa k → k ≠ ga ∧ k ≠ ca ∧ k < W.heap.size ∧ k ≠ sb ∧ k ≠ cb
 ge : ∀ x ∈ [sb, cb, ga, ca], w.heap.size ≤ x ∧ x < W.heap.size
 tabs : Tabs W
 below : Below w.heap.size w W
def cmV (_n : Str) (i : Nat) (b : Nat) : List Value := [.int .i64 3, .int .i64 0, .int .i64 0, .bool false, .int .i64 ((i : Int) + 1), .int .i64 0, .int .i64 1, .int .i64 0, .int .i64 0, .int .i64 0, .slice none 0 0, .string ⟨#[]⟩, .slice (some ⟨b, 0, none⟩) 1 1, .int .i64 0, .int .i64 0, .int .i64 0, .int .i64 0, .slice none 0 0]
theorem cm_cells (n : Str) (i b : Nat) : (cmR n i).cells none 0 (some ⟨b, 0, none⟩) 1 none 0 = cmV n i b := rfl
theorem cm_at {w : World} {xb pb i : Nat} {n : Str} (hn : sfit n) (hi : i ≤ 100) (hx : Blk w xb 9 [.string ⟨#[120]⟩]) (hp : Blk w pb 69 [.string n, .int .i64 i, .slice (some ⟨xb, 0, none⟩) 1 1]) :
 RecAt w (fun k => k = xb ∨ k = pb) (cmR n i) none 0 (some ⟨pb, 0, none⟩) 1 none 0 := by
 have r1 : StrR.Row w (fun k => False ∨ k = xb) (some ⟨xb, 0, none⟩) [⟨#[120]⟩] := Rep.Row.blk hx ⟨rfl, show sfit ⟨#[120]⟩ from (by show (1 : Nat) ≤ _; omega)⟩
 have r2 := Rep.Row.blk (R := PutR) (a := ⟨n, i, [⟨#[120]⟩]⟩) hp (put_rep.2 ⟨some ⟨xb, 0, none⟩, 1, rfl, hn, i64_small i (by omega), Nat.le_refl 1, (by decide : (1 : Nat) ≤ 9223372036854775807), r1⟩)
 have r3 : PutR.Row w (fun k => k = xb ∨ k = pb) (some ⟨pb, 0, none⟩) (cmR n i).batch.puts := r2.mono fun k h _ => by rcases h with (h | h) | h <;> first | exact h.elim | exact .inl h | exact .inr h
 exact ⟨i64_small 3 (by omega), i64_small 0 (by omega), i64_small 0 (by omega), ⟨show i64 ((i : Int) + 1) from i64_of (by omega), i64_small 0 (by omega), i64_small 1 (by omega)⟩, ⟨i64_small 0 (by omega), i64_small 0 (by omega), i64_small 0 (by omega)⟩, ⟨Nat.le_refl _, by decide, Rep.Row.nil_⟩, (by show (0 : Nat) ≤ _; omega), ⟨Nat.le_refl _, by decide, r3⟩, ⟨i64_small 0 (by omega), i64_small 0 (by omega), i64_small 0 (by omega), i64_small 0 (by omega)⟩, ⟨Nat.le_refl _, by decide, Rep.Row.nil_⟩⟩
theorem cm_fair (n : Str) (i : Nat) : (cmR n i).Fair := ⟨by show (1 : Nat) ≤ _; decide, (fun p hp => by rcases List.mem_singleton.1 hp with rfl; show (1 : Nat) ≤ _; decide), by show (0 : Nat) ≤ _; decide, by show (0 : Nat) ≤ _; decide, by show (0 : Nat) ≤ _; decide, fun s hs => by cases hs⟩
theorem cm_put (n : Str) (i : Nat) : PutFair (cmR n i).streams := ⟨by show (0 : Nat) ≤ _; decide, fun s hs => by cases hs⟩
def HbI (w : World) (sb cb ga gt ca ct : Nat) (a t : Int) (nm : Str) (ev : Nat) (A : Option Addr) (i : Nat) (W : World) : Prop :=
 ∃ (Pa Pt : Nat → Prop) (La Lt : List Event) (Q : Nat → Prop), HbR w sb cb ga gt ca ct a t Pa Pt (hbS a a ((i : Int) + 1) (tabK nm ev) [] La) (hbS t a ((i : Int) + 1) [] [] Lt) W ∧
   Inv (hbS a a ((i : Int) + 1) (tabK nm ev) [] La) (100 + 20 * i) ∧ Inv (hbS t a ((i : Int) + 1) [] [] Lt) (100 + 20 * i) ∧ StreamR.Row W Q A (strK nm ev) ∧ ∀ x ∈ [ga, gt, ca, ct], ¬ Q x
theorem handBack_law (n events : Int) (w : World) (hT : Tabs w) (h2 : 2 ≤ w.heap.size) :
 Calls Tryz.prog 13 #[.int .i64 n, .int .i64 events] w fun e w' => e = .returned (.bool true) ∧ Below w.heap.size w w' := by
 have CA := jh (fun W (hW : Below w.heap.size w W) => awake23_any W (hT.below hW) (by have := hW.size; omega))
 have HT := jh hT
 clear hT
 have hcase : n < 0 ∨ (decide (n < 0) = false ∧ 8 < n) ∨ (decide (n < 0) = false ∧ decide (8 < n) = false ∧ events < 0) ∨ (decide (n < 0) = false ∧ decide (8 < n) = false ∧ decide (events < 0) = false ∧ 15 < events) ∨
  ((decide (n < 0) = false ∧ decide (8 < n) = false ∧ decide (events < 0) = false ∧ decide (15 < events) = false) ∧ 0 ≤ n ∧ n ≤ 8 ∧ 0 ≤ events ∧ events ≤ 15) := by
  simp only [decide_eq_false_iff_not]; omega
 rcases hcase with h | ⟨h, h'⟩ | ⟨h, h', h''⟩ | ⟨h, h', h'', h3⟩ | ⟨⟨h, h', h'', h3⟩, n0, n1, w0, w1⟩
 iterate 4
  ·go_enter Tryz.func13, Tryz.ntmps13
   go_wp2_with fail
   refine (CA.out w (jb _ _)).mono ?_
   rintro e w1 ⟨rfl, hb1⟩
   go_wp2_with fail
   go_ret
   exact ⟨rfl, hb1⟩
 have hbz := ((jb w.heap.size w).al (.cells #[.pointer none, .pointer none] 162)).al (.cells #[.pointer none, .pointer none] 163)
 have BS := (Blk.new w 162 [.pointer none, .pointer none]).alloc (.cells #[.pointer none, .pointer none] 163)
 have BC := Blk.new1 w (.cells #[.pointer none, .pointer none] 162) 163 [.pointer none, .pointer none]
 have HB := jh (ja hbz (ja BS BC))
 clear hbz BS BC
 go_enter Tryz.func13, Tryz.ntmps13
 go_wp2_with fail
 generalize hwz : (w.alloc (.cells #[.pointer none, .pointer none] 162)).alloc (.cells #[.pointer none, .pointer none] 163) = wz at *
 have hz0 : wz.heap.size = w.heap.size + 2 := by rw [← hwz]; simp
 clear hwz
 go_loopw [7] (fun iv wr => (iv = .int .i64 0 ∧ wr = wz) ∨ (iv = .int .i64 1 ∧ ∃ ga ca Pa, HbH w w.heap.size (w.heap.size + 1) ga ca Pa wr) ∨ (iv = .int .i64 2 ∧ ∃ ga gt ca ct Pa Pt, HbR w w.heap.size (w.heap.size + 1) ga gt ca ct 1 2 Pa Pt (hbS 1 1 1 [] [] []) (hbS 2 1 1 [] [] []) wr)) (fun iv _ => 2 - (intOf iv).toNat)
 case atStart => exact .inl ⟨rfl, rfl⟩
 case round =>
  rcases hrel with ⟨rfl, rfl⟩ | ⟨rfl, ga, ca, Pa, hH⟩ | ⟨rfl, ga, gt, ca, ct, Pa, Pt, hR⟩
  ·have C1 := made23_any 1 wr frS (by omega) fr_new
   unfold GotMade at C1
   go_wp2_with fail
   refine C1.mono ?_
   clear C1
   rintro e v1 ⟨⟨g, gm, rfl, hg, m1, hm1, hst⟩, hb1⟩
   have hgl := hst.lt
   have hz1 := hb1.size
   have H1 := jh (ja hst hb1)
   have C2 := clkNew_any 1 1 v1 ⟨⟨by decide, by decide⟩, by decide, by decide⟩
   clear hst hb1
   go_wp2_with fail
   refine C2.mono ?_
   clear C2
   rintro e v2 ⟨rfl, hc2, hz2, hb2⟩
   have BS := (HB.out.2.1.ext H1.out.2).ext hb2
   have BC := (HB.out.2.2.ext H1.out.2).ext hb2
   have H2 := jh (ja hc2 (ja hb2 (ja BS BC)))
   have b0 := BS.cell 0
   have d0 := BC.cell 0
   simp only [List.getElem?_cons_zero] at b0 d0
   have fb := BS.frozen 0
   have fd := BC.frozen 0
   have hbl := BS.lt
   have hdl := BC.lt
   clear hc2 hb2 BS BC
   go_upto_region 13 with fail
   have BS1 := H2.out.2.2.1.set_ 0 (.pointer (some ⟨g, 0, none⟩))
   have O1 : Only (· = w.heap.size) v2 _ := Only.set_ (F := (· = w.heap.size)) (p := ⟨w.heap.size, 0, none⟩) rfl (.pointer (some ⟨g, 0, none⟩))
   have BC1 := H2.out.2.2.2.only O1 (by intro e; have e' : w.heap.size + 1 = w.heap.size := e; omega)
   have H3 := jh (ja BS1 (ja BC1 O1))
   have hz3 : (v2.setCell ⟨w.heap.size, 0, none⟩ (.pointer (some ⟨g, 0, none⟩))).heap.size = v2.heap.size := by simp
   generalize v2.setCell ⟨w.heap.size, 0, none⟩ (.pointer (some ⟨g, 0, none⟩)) = v3 at *
   clear b0 d0 fb fd hbl hdl BS1 BC1 O1
   have d0 := H3.out.2.1.cell 0
   simp only [List.getElem?_cons_zero] at d0
   have fd := H3.out.2.1.frozen 0
   have hdl := H3.out.2.1.lt
   go_upto_region 7 with fail
   have H4 := jh (show HbH w w.heap.size (w.heap.size + 1) g v1.heap.size (fun k => (wr.heap.size ≤ k ∧ k ≠ g) ∧ k < v1.heap.size) (v3.setCell ⟨w.heap.size + 1, 0, none⟩ (.pointer (some ⟨v1.heap.size, 0, none⟩))) from by
    have O2 : Only (· = w.heap.size + 1) v3 (v3.setCell ⟨w.heap.size + 1, 0, none⟩ (.pointer (some ⟨v1.heap.size, 0, none⟩))) := Only.set_ (F := (· = w.heap.size + 1)) (p := ⟨w.heap.size + 1, 0, none⟩) rfl _
    have O12 : Only (fun k => k = w.heap.size ∨ k = w.heap.size + 1) v2 (v3.setCell ⟨w.heap.size + 1, 0, none⟩ (.pointer (some ⟨v1.heap.size, 0, none⟩))) := (H3.out.2.2.mono fun k e => .inl e).tr (O2.mono fun k e => .inr e)
    have ob := ((HB.out.1.tr H1.out.2).tr H2.out.2.1).trans (O12.low (B := w.heap.size) (fun k e => by have e' : k = _ ∨ k = _ := e; omega) (by omega))
    have hs4 := O12.size
    refine ⟨H3.out.1.only O2 (by intro e; have e' : w.heap.size = w.heap.size + 1 := e; omega), H3.out.2.1.set_ 0 _, ?_, Blk.only H2.out.1 O12 (by intro e; have e' : v1.heap.size = _ ∨ v1.heap.size = _ := e; omega), by omega, fun k hk => by omega, fun x hx => ?_, HT.out.below ob, ob⟩
    ·obtain ⟨v, a, d⟩ := H1.out.1
     have d2 := (d.low.same (js H2.out.2.1)).mono (Q := fun k => (wr.heap.size ≤ k ∧ k ≠ g) ∧ k < v1.heap.size) fun k hk => ⟨hk.1.1, hk.2⟩
     exact ⟨v, (a.ext H2.out.2.1).only O12 (by intro e; have e' : g = _ ∨ g = _ := e; omega), d2.same (Same.of_only O12 fun k hk e => by have e' : k = _ ∨ k = _ := e; have := hk.1.1; omega)⟩
    ·simp only [List.mem_cons, List.not_mem_nil, or_false] at hx; omega)
   generalize v3.setCell ⟨w.heap.size + 1, 0, none⟩ (.pointer (some ⟨v1.heap.size, 0, none⟩)) = v4 at *
   clear H1 H2 H3 d0 fd hdl
   go_wp2_with fail
   go_round
   case rel => exact .inr (.inl ⟨rfl, _, _, _, H4.out⟩)
   case measure => simp [intOf]
  ·have HH := jh hH
   have hga := hH.ge ga (by simp)
   have hca := hH.ge ca (by simp)
   have hsb := hH.ge (w.heap.size) (by simp)
   have hcb := hH.ge (w.heap.size + 1) (by simp)
   obtain ⟨q1, q2, q3, q4, q5, q6⟩ := hH.ne
   have C1 := made23_any 2 wr hb2S (by omega) hb2_new
   unfold GotMade at C1
   clear hH
   go_wp2_with fail
   refine C1.mono ?_
   clear C1
   rintro e v1 ⟨⟨g, gm, rfl, hg, m1, hm1, hst⟩, hb1⟩
   have hgl := hst.lt
   have hz1 := hb1.size
   have H1 := jh (ja hst hb1)
   have C2 := clkNew_any 2 1 v1 ⟨⟨by decide, by decide⟩, by decide, by decide⟩
   clear hst hb1
   go_wp2_with fail
   refine C2.mono ?_
   clear C2
   rintro e v2 ⟨rfl, hc2, hz2, hb2⟩
   have BS := (HH.out.arS.ext H1.out.2).ext hb2
   have BC := (HH.out.arC.ext H1.out.2).ext hb2
   have H2 := jh (ja hc2 (ja hb2 (ja BS BC)))
   have b0 := BS.cell 1
   simp only [List.getElem?_cons_zero, List.getElem?_cons_succ] at b0
   have fb := BS.frozen 1
   have hbl := BS.lt
   clear hc2 hb2 BS BC
   go_upto_region 13 with fail
   have BS1 := H2.out.2.2.1.set_ 1 (.pointer (some ⟨g, 0, none⟩))
   have O1 : Only (· = w.heap.size) v2 _ := Only.set_ (F := (· = w.heap.size)) (p := ⟨w.heap.size, 1, none⟩) rfl (.pointer (some ⟨g, 0, none⟩))
   have BC1 := H2.out.2.2.2.only O1 (by intro e; have e' : w.heap.size + 1 = w.heap.size := e; omega)
   have H3 := jh (ja BS1 (ja BC1 O1))
   have hz3 : (v2.setCell ⟨w.heap.size, 1, none⟩ (.pointer (some ⟨g, 0, none⟩))).heap.size = v2.heap.size := by simp
   generalize v2.setCell ⟨w.heap.size, 1, none⟩ (.pointer (some ⟨g, 0, none⟩)) = v3 at *
   clear b0 fb hbl BS1 BC1 O1
   have d0 := H3.out.2.1.cell 1
   simp only [List.getElem?_cons_zero, List.getElem?_cons_succ] at d0
   have fd := H3.out.2.1.frozen 1
   have hdl := H3.out.2.1.lt
   go_upto_region 7 with fail
   have H4 := jh (show HbR w w.heap.size (w.heap.size + 1) ga g ca v1.heap.size 1 2 Pa (fun k => (wr.heap.size ≤ k ∧ k ≠ g) ∧ k < v1.heap.size) (hbS 1 1 1 [] [] []) (hbS 2 1 1 [] [] []) (v3.setCell ⟨w.heap.size + 1, 1, none⟩ (.pointer (some ⟨v1.heap.size, 0, none⟩))) from by
    rw [← hb1_eq, ← hb2_eq]
    have O2 : Only (· = w.heap.size + 1) v3 (v3.setCell ⟨w.heap.size + 1, 1, none⟩ (.pointer (some ⟨v1.heap.size, 0, none⟩))) := Only.set_ (F := (· = w.heap.size + 1)) (p := ⟨w.heap.size + 1, 1, none⟩) rfl _
    have O12 : Only (fun k => k = w.heap.size ∨ k = w.heap.size + 1) v2 (v3.setCell ⟨w.heap.size + 1, 1, none⟩ (.pointer (some ⟨v1.heap.size, 0, none⟩))) := (H3.out.2.2.mono fun k e => .inl e).tr (O2.mono fun k e => .inr e)
    have hb12 := H1.out.2.tr H2.out.2.1
    have ob := (HH.out.below.tr hb12).trans (O12.low (B := w.heap.size) (fun k e => by have e' : k = _ ∨ k = _ := e; omega) (by omega))
    have hs4 := O12.size
    refine ⟨H3.out.1.only O2 (by intro e; have e' : w.heap.size = w.heap.size + 1 := e; omega), H3.out.2.1.set_ 1 _, ?_, ?_, Blk.only (Blk.ext HH.out.cka hb12) O12 (by intro e; have e' : ca = _ ∨ ca = _ := e; omega), Blk.only H2.out.1 O12 (by intro e; have e' : v1.heap.size = _ ∨ v1.heap.size = _ := e; omega), ?_, fun x hx hk => ?_, fun x hx hk => ?_, fun x hx => ?_, HT.out.below ob, ob⟩
    ·obtain ⟨v, a, d⟩ := HH.out.sta
     exact ⟨v, (a.ext hb12).only O12 (by intro e; have e' : ga = _ ∨ ga = _ := e; omega), (d.same (js hb12)).same (Same.of_only O12 fun k hk e => by have e' : k = _ ∨ k = _ := e; have := HH.out.ava k hk; omega)⟩
    ·obtain ⟨v, a, d⟩ := H1.out.1
     have d2 := (d.low.same (js H2.out.2.1)).mono (Q := fun k => (wr.heap.size ≤ k ∧ k ≠ g) ∧ k < v1.heap.size) fun k hk => ⟨hk.1.1, hk.2⟩
     exact ⟨v, (a.ext H2.out.2.1).only O12 (by intro e; have e' : g = _ ∨ g = _ := e; omega), d2.same (Same.of_only O12 fun k hk e => by have e' : k = _ ∨ k = _ := e; have := hk.1.1; omega)⟩
    ·simp only [List.nodup_cons, List.mem_cons, List.not_mem_nil, or_false, not_or]; simp; omega
    ·have := HH.out.ava x hk
     simp only [List.mem_cons, List.not_mem_nil, or_false] at hx; omega
    ·simp only [List.mem_cons, List.not_mem_nil, or_false] at hx; omega
    ·simp only [List.mem_cons, List.not_mem_nil, or_false] at hx; omega)
   generalize v3.setCell ⟨w.heap.size + 1, 1, none⟩ (.pointer (some ⟨v1.heap.size, 0, none⟩)) = v4 at *
   clear H1 H2 H3 d0 fd hdl HH
   go_wp2_with fail
   go_round
   case rel => exact .inr (.inr ⟨rfl, _, _, _, _, _, _, H4.out⟩)
   case measure => simp [intOf]
  ·have HR := jh hR
   clear hR
   go_wp2_with fail
   obtain ⟨wA, hwA⟩ : ∃ wA, wA = wr := ⟨_, rfl⟩
   subst hwA
   go_loopw [12, 13] (fun sv iv wr => ∃ (k : Nat) (nm : Str), k ≤ 676 ∧ iv = .int .i64 k ∧ sv = .string nm ∧ nm.size ≤ 1000 ∧ (LowN nm ∨ (nm = ⟨#[]⟩ ∧ k ≤ 1)) ∧ ∃ Pa Pt, HbR w w.heap.size (w.heap.size + 1) ga gt ca ct 1 2 Pa Pt (hbS 1 1 1 [] [] []) (hbS 2 1 1 [] [] []) wr) (fun _ iv _ => 676 - (intOf iv).toNat)
   case atStart => exact ⟨0, ⟨#[]⟩, by omega, rfl, rfl, by decide, .inr ⟨rfl, by omega⟩, Pa, Pt, HR.out⟩
   case round =>
    clear HR Pa Pt
    obtain ⟨k, nm, hk, rfl, rfl, hnz, hnm, Pa, Pt, hR⟩ := hrel
    by_cases hlt : k < 676
    ·have c0 : wr.cell? ⟨w.heap.size, 0, none⟩ = some (.pointer (some ⟨ga, 0, none⟩)) := hR.arS.cell 0
     have hl0 := hR.arS.lt
     have C1 := sranges_any ga (hbS 1 1 1 [] [] []) Pa wr hR.sta (by decide) (by decide)
     have HR := jh hR
     have HN := jh hnm
     clear hR hnm
     unfold GotOwn ptrV at C1
     go_wp2_with fail
     refine C1.mono ?_
     clear C1
     rintro e v1 ⟨⟨v, rfl, ho⟩, hb1⟩
     obtain ⟨Ar, cr, rfl, _⟩ := ho.form
     have HO := jh (ja ho hb1)
     have C2 := stream_any k v1 (by omega)
     clear ho hb1
     go_wp2_with fail
     refine C2.mono ?_
     rintro e v2 ⟨rfl, hb2⟩
     have C3 := rOf_any Ar cr (rgK 1 1) (alikeN k) (fun _ => True) v2 ((HO.out.1.row' range_plain fun _ _ => trivial).ext hb2) (rg_sound (by decide) (by decide)) (by rw [alikeN_size]; decide)
     have H2 := jh (HO.out.2.tr hb2)
     clear hb2 HO
     by_cases hlow : hashS (alikeN k) ≤ 2147483647
     ·rw [of_low hlow] at C3
      unfold Found at C3
      dsimp only at C3
      go_wp2_with fail
      refine C3.mono ?_
      clear C3
      rintro e v3 ⟨rfl, hb3⟩
      have H3 := jh (H2.out.tr hb3)
      clear hb3
      go_upto_region 19 with fail
      have H4 := jh (ja (HR.out.ext (H3.out.al (.cells #[.int .i64 0, .int .i64 2147483647, .int .i64 1, .int .i64 1] 27))) (Blk.new v3 27 [.int .i64 0, .int .i64 2147483647, .int .i64 1, .int .i64 1]))
      generalize hw4 : v3.alloc (.cells #[.int .i64 0, .int .i64 2147483647, .int .i64 1, .int .i64 1] 27) = v4 at *
      clear hw4
      have d2 := H4.out.2.cell 2
      simp only [List.getElem?_cons_zero, List.getElem?_cons_succ] at d2
      have hdl := H4.out.2.lt
      have C4 := stream_any k v4 (by omega)
      go_wp2_with fail
      refine C4.mono ?_
      clear C4
      rintro e v5 ⟨rfl, hb5⟩
      have H5 := jh (H4.out.1.ext hb5)
      have hal := alikeN_size k
      clear hb5 d2 hdl
      go_wp2_with fail
      go_round
      case rel => exact ⟨k + 1, alikeN k, by omega, by go_num, rfl, by rw [hal]; decide, .inl ⟨names_ok hlt, (hashS_bd _).1, hlow⟩, _, _, H5.out⟩
      case measure => simp [intOf]; omega
     ·rw [of_high hlow] at C3
      unfold Found at C3
      dsimp only at C3
      go_wp2_with fail
      refine C3.mono ?_
      clear C3
      rintro e v3 ⟨rfl, hb3⟩
      have H3 := jh (H2.out.tr hb3)
      clear hb3
      go_upto_region 19 with fail
      have H4 := jh (ja (HR.out.ext (H3.out.al (.cells #[.int .i64 2147483648, .int .i64 4294967295, .int .i64 2, .int .i64 1] 27))) (Blk.new v3 27 [.int .i64 2147483648, .int .i64 4294967295, .int .i64 2, .int .i64 1]))
      generalize hw4 : v3.alloc (.cells #[.int .i64 2147483648, .int .i64 4294967295, .int .i64 2, .int .i64 1] 27) = v4 at *
      clear hw4
      have d2 := H4.out.2.cell 2
      simp only [List.getElem?_cons_zero, List.getElem?_cons_succ] at d2
      have hdl := H4.out.2.lt
      go_wp2_with fail
      go_round
      case rel => exact ⟨k + 1, nm, by omega, by go_num, rfl, hnz, by
       rcases HN.out with hq | ⟨hq, hk1⟩
       ·exact .inl hq
       ·refine .inr ⟨hq, ?_⟩
        by_cases hk2 : k = 1
        ·subst hk2
         exact absurd hlow (Int.not_lt.2 name_low)
        ·omega, _, _, H4.out.1⟩
      case measure => simp [intOf]; omega
    ·have hlt' : decide ((k : Int) < 676) = false := jd (by omega)
     have HLow : LowN nm := by
      rcases hnm with hq | ⟨_, hk1⟩
      ·exact hq
      ·omega
     have HR := jh hR
     have HN := jh HLow
     clear hR hnm HLow
     go_wp2_with fail
     obtain ⟨wB, hwB⟩ : ∃ wB, wB = wr := ⟨_, rfl⟩
     subst hwB
     go_loopw [16] (fun iv wr => ∃ k : Nat, (k : Int) ≤ events ∧ iv = .int .i64 k ∧ ∃ Pa Pt, HbR w w.heap.size (w.heap.size + 1) ga gt ca ct 1 2 Pa Pt (hbS 1 1 1 (tabK nm k) [] (evsK nm k)) (hbS 2 1 1 [] [] []) wr) (fun iv _ => events.toNat - (intOf iv).toNat)
     case atStart => exact ⟨0, w0, rfl, Pa, Pt, HR.out⟩
     case round =>
      clear HR Pa Pt hlt hlt' hk
      obtain ⟨k, hk, rfl, Pa, Pt, hR⟩ := hrel
      by_cases hlt : (k : Int) < events
      ·have c0 : wr.cell? ⟨w.heap.size, 0, none⟩ = some (.pointer (some ⟨ga, 0, none⟩)) := hR.arS.cell 0
       have hl0 := hR.arS.lt
       have hgal := (hR.ge ga (by simp))
       have HB3 := jh (show Below wr.heap.size wr ((wr.alloc (.cells #[.string ⟨#[120]⟩] 9)).alloc (.cells #[.string nm, .int .i64 k, .slice (some ⟨wr.heap.size, 0, none⟩) 1 1] 69)) from by repeat (with_reducible first | assumption | exact jb _ _ | refine Below.al ?_ _ | refine Below.drew ?_ | apply Below.st1))
       have HX := jh (ja ((Blk.new wr 9 [.string ⟨#[120]⟩]).alloc (.cells #[.string nm, .int .i64 k, .slice (some ⟨wr.heap.size, 0, none⟩) 1 1] 69)) (Blk.new1 wr (.cells #[.string ⟨#[120]⟩] 9) 69 [.string nm, .int .i64 k, .slice (some ⟨wr.heap.size, 0, none⟩) 1 1]))
       have HR := jh (hR.ext HB3.out)
       have C1 := applyH_any ga (hbS 1 1 1 (tabK nm k) [] (evsK nm k)) (cmR nm k) (.inl rfl) none (some ⟨wr.heap.size + 1, 0, none⟩) none 0 1 0 _ _ ((wr.alloc (.cells #[.string ⟨#[120]⟩] 9)).alloc (.cells #[.string nm, .int .i64 k, .slice (some ⟨wr.heap.size, 0, none⟩) 1 1] 69)) HR.out.sta (HR.out.ava ga (by simp)) ((inv_K HN.out k (by omega)).fit (by omega)) (cm_at (by unfold sfit; omega) (by omega) HX.out.1 HX.out.2) (fun e => by omega) (cm_fair nm k) HR.out.tabs (by omega) (cm_put nm k) (by show (2 : Nat) ≤ _; decide) (by show (freshT (tabK nm k)).length ≤ _; rw [freshK HN.out.name (by omega)]; unfold tabK; split <;> simp)
       rw [commitK HN.out (by omega), cm_cells] at C1
       unfold StOut ptrV cmV at C1
       clear hR
       go_wp2_with fail
       refine C1.mono ?_
       clear C1
       rintro e v1 ⟨rfl, hst, hO⟩
       have H1 := jh (HR.out.outA h2 hst hO)
       clear hst hO
       go_wp2_with fail
       go_round
       case rel => exact ⟨k + 1, by omega, by go_num, _, _, by rw [evsK_succ]; exact H1.out⟩
       case measure => simp [intOf]; omega
      ·have hlt' : decide ((k : Int) < events) = false := jd hlt
       have c0 : wr.cell? ⟨w.heap.size, 0, none⟩ = some (.pointer (some ⟨ga, 0, none⟩)) := hR.arS.cell 0
       have hl0 := hR.arS.lt
       have hkv : k ≤ 15 := by omega
       have C1 := stakeB_any ga (hbS 1 1 1 (tabK nm k) [] (evsK nm k)) allHashes Pa wr hR.sta ((inv_K HN.out k (by omega)).fit (by omega))
       rw [show takeT (hbS 1 1 1 (tabK nm k) [] (evsK nm k)).table allHashes = strK nm k from takeK nm k (inR_all nm)] at C1
       unfold GotStB ptrV allHashes at C1
       have HR := jh hR
       clear hR
       go_wp2_with fail
       refine C1.mono ?_
       clear C1
       rintro e v1 ⟨⟨A, c, rfl, ⟨hac1, hac2⟩, hrow⟩, hb1⟩
       have HI := jh (show HbI w w.heap.size (w.heap.size + 1) ga gt ca ct 1 2 nm k A 0 v1 from
        ⟨_, _, _, _, _, HR.out.ext hb1, (inv_K HN.out k (by omega)).mono (by omega), (show Inv (hbS 2 1 1 [] [] []) 0 from inv_new hb2_new).mono (by omega), hrow, fun x hx hq => by have := (HR.out.ge x (List.mem_cons_of_mem _ (List.mem_cons_of_mem _ hx))).2; have hq' : wr.heap.size ≤ x := hq; omega⟩)
       clear hrow hb1 HR c0 hl0
       have HAC := jh (ja hac1 hac2)
       have hsl : (strK nm k).length ≤ 1 := by unfold strK; split <;> simp
       clear hac1 hac2
       go_wp2_with fail
       obtain ⟨wC, hwC⟩ : ∃ wC, wC = v1 := ⟨_, rfl⟩
       subst hwC
       go_loopw [18, 19] (fun av iv wr => ∃ i : Nat, (i : Int) ≤ n ∧ iv = .int .i64 i ∧ ((av = .int .i64 0 ∧ ∃ ga gt ca ct, HbI w w.heap.size (w.heap.size + 1) ga gt ca ct 1 2 nm k A i wr) ∨ (av = .int .i64 1 ∧ ∃ ga gt ca ct, HbI w w.heap.size (w.heap.size + 1) ga gt ca ct 2 1 nm k A i wr))) (fun _ iv _ => n.toNat - (intOf iv).toNat)
       case atStart => exact ⟨0, n0, rfl, .inl ⟨rfl, _, _, _, _, HI.out⟩⟩
       case round =>
        clear HI
        obtain ⟨i, hi, rfl, ⟨rfl, ga, gt, ca, ct, Pa, Pt, La, Lt, Q, hR, hIa, hIt, hrow, hQ⟩ | ⟨rfl, ga, gt, ca, ct, Pa, Pt, La, Lt, Q, hR, hIa, hIt, hrow, hQ⟩⟩ := hrel
        ·have hp : Pair 1 2 := by unfold Pair; omega
         by_cases hlt : (i : Int) < n
         ·have he : 1 ≤ (i : Int) + 1 ∧ (i : Int) + 1 ≤ 50 := by omega
          have s0 : wr.cell? ⟨w.heap.size, 0, none⟩ = some (.pointer (some ⟨ga, 0, none⟩)) := hR.arS.cell 0
          have sl := hR.arS.lt
          have C1 := freezeH_any ga (hbS 1 1 ((i : Int) + 1) (tabK nm k) [] La) 0 2 Pa wr hR.sta (hIa.fit (by omega)) (by show (0 : Nat) ≤ _; omega) hR.tabs (by omega) (by show (2 : Nat) ≤ _; omega) (by show (freshT (tabK nm k)).length ≤ _; rw [freshK HN.out.name (by omega)]; unfold tabK; split <;> simp) (rg_fit (a := 1) (by omega) (by omega))
          have HR := jh hR
          have HI := jh (ja hIa (ja hIt (ja hrow hQ)))
          clear hR hIa hIt hrow hQ
          unfold ptrV at C1
          go_wp2_with fail
          refine C1.mono ?_
          clear C1
          rintro e v1 ⟨hgot, hb1⟩
          obtain rfl := hb_gotF hp (by omega) hkv HN.out hgot
          have H1 := jh (ja (HR.out.ext hb1) (HI.out.2.2.1.ext hb1))
          clear hgot hb1 HR s0 sl
          unfold frzV
          go_upto_region 33 with (first
           | (refine wpList_store_new (cs := #[.int .i64 9, .int .i64 0, .int .i64 2, .bool false, .int .i64 0, .int .i64 0, .int .i64 0, .int .i64 0, .int .i64 0, .int .i64 0, .slice none 0 0, .string ⟨#[]⟩, .slice none 0 0, .int .i64 (xK 1 ((i : Int) + 1)).first, .int .i64 (xK 1 ((i : Int) + 1)).last, .int .i64 (xK 1 ((i : Int) + 1)).owner, .int .i64 (xK 1 ((i : Int) + 1)).epoch, .slice none 0 0]) rfl rfl rfl rfl rfl (by kernel_rfl) rfl (by simp [Value.oneCell']) ?_)
           | fail)
          have hbA : Below v1.heap.size v1 (v1.alloc (.cells #[.int .i64 9, .int .i64 0, .int .i64 2, .bool false, .int .i64 0, .int .i64 0, .int .i64 0, .int .i64 0, .int .i64 0, .int .i64 0, .slice none 0 0, .string ⟨#[]⟩, .slice none 0 0, .int .i64 (xK 1 ((i : Int) + 1)).first, .int .i64 (xK 1 ((i : Int) + 1)).last, .int .i64 (xK 1 ((i : Int) + 1)).owner, .int .i64 (xK 1 ((i : Int) + 1)).epoch, .slice none 0 0] 46)) := by repeat (with_reducible first | assumption | exact jb _ _ | refine Below.al ?_ _ | refine Below.drew ?_ | apply Below.st1)
          have H2 := jh (ja (H1.out.1.ext hbA) (ja (H1.out.2.ext hbA) (Blk.new v1 46 [.int .i64 9, .int .i64 0, .int .i64 2, .bool false, .int .i64 0, .int .i64 0, .int .i64 0, .int .i64 0, .int .i64 0, .int .i64 0, .slice none 0 0, .string ⟨#[]⟩, .slice none 0 0, .int .i64 (xK 1 ((i : Int) + 1)).first, .int .i64 (xK 1 ((i : Int) + 1)).last, .int .i64 (xK 1 ((i : Int) + 1)).owner, .int .i64 (xK 1 ((i : Int) + 1)).epoch, .slice none 0 0])))
          generalize v1.alloc (.cells #[.int .i64 9, .int .i64 0, .int .i64 2, .bool false, .int .i64 0, .int .i64 0, .int .i64 0, .int .i64 0, .int .i64 0, .int .i64 0, .slice none 0 0, .string ⟨#[]⟩, .slice none 0 0, .int .i64 (xK 1 ((i : Int) + 1)).first, .int .i64 (xK 1 ((i : Int) + 1)).last, .int .i64 (xK 1 ((i : Int) + 1)).owner, .int .i64 (xK 1 ((i : Int) + 1)).epoch, .slice none 0 0] 46) = v2 at *
          have hz2 := hbA.size
          have hga := H1.out.1.ge ga (by simp)
          have hsg := H1.out.1.ne.1.2.1
          clear hbA H1
          haveI : Nonempty (Wd (Only (fun k => k = ga) v2)) := ⟨⟨v2, Only.refl _ _⟩⟩
          have s0 := OnlyD.cell (F := (· = ga)) (show v2.cell? ⟨w.heap.size, 0, none⟩ = some (.pointer (some ⟨ga, 0, none⟩)) from H2.out.1.arS.cell 0) hsg
          have HBK := jh (fun W (hW : ∃ d : Wd (Only (fun k => k = ga) v2), W = d.w) => (show Blk W v1.heap.size 46 [.int .i64 9, .int .i64 0, .int .i64 2, .bool false, .int .i64 0, .int .i64 0, .int .i64 0, .int .i64 0, .int .i64 0, .int .i64 0, .slice none 0 0, .string ⟨#[]⟩, .slice none 0 0, .int .i64 (xK 1 ((i : Int) + 1)).first, .int .i64 (xK 1 ((i : Int) + 1)).last, .int .i64 (xK 1 ((i : Int) + 1)).owner, .int .i64 (xK 1 ((i : Int) + 1)).epoch, .slice none 0 0] from by
           obtain ⟨d, rfl⟩ := hW
           exact H2.out.2.2.only d.ok (fun e => by have e' : v1.heap.size = ga := e; omega)))
          refine wp_region_mix (.seg [0, 1, 2, 3, 4, 5, 6] 7 (.leaf [8, 9])) (fun w' => ∃ d : Wd (Only (fun k => k = ga) v2), w' = d.w) (by kernel_rfl) (by kernel_rfl) (fun _ _ d _ _ h => by cases d <;> exact h) (ClsW.mk Only.drew) ?_
          unfold wpMix; simp only [pick, j1, j2, j3, j4]
          (repeat (show wpQuiet _ _ _ _ (_ :: _) _; first | (refine wpQuiet_load_blk rfl rfl rfl HBK.out Tryz.underlying46 rfl (by kernel_rfl) ?_; go_simp) | go_big_quiet_step (fail))); refine qn ?_
          have HD := jh (H2.out.1.ext (jb _ _).drew)
          have C2 := applyH_any ga (hbS 1 1 ((i : Int) + 1) (tabK nm k) [] La) (frzR (xK 1 ((i : Int) + 1)) 2) (.inr (.inl rfl)) none none none 0 0 0 _ (fun _ => False) v2.drew HD.out.sta (HD.out.ava ga (by simp)) (HI.out.1.fit (by omega)) (frz_at (xK_fit (by omega) (by omega)) (i64_small 2 (by omega))) (fun h => h) frz_fair HD.out.tabs (by have := (HD.out.ge ga (by simp)).1; have := (HD.out.ge gt (by simp)).1; omega) frz_put (by show (2 : Nat) ≤ _; omega) (by show (freshT (tabK nm k)).length ≤ _; rw [freshK HN.out.name (by omega)]; unfold tabK; split <;> simp)
          unfold StOut at C2
          rw [frz_cells, hb_freeze hp (by omega) 2 (by omega), if_pos rfl] at C2
          unfold frzV ptrV at C2
          go_wp2_with fail
          refine C2.mono ?_
          clear C2 s0
          rintro e v3 ⟨rfl, hst, hO⟩
          have H3 := jh (ja (HD.out.outA h2 hst hO) (H2.out.2.1.same (Same.of_only ((Only.drew).tr hO) fun k hk e => by have e' : k = ga := e; subst e'; exact HI.out.2.2.2 k (by simp) hk) (by have := hO.size; simpa using this)))
          have hO2 : Only (fun k => k = ga) v2 v3 := Only.tr Only.drew hO
          have hz3 := hO2.size
          clear hst hO
          go_wp2_with fail
          (refine segw (D := Only (fun k => k = ga) v2) (hO2) ?_; unfold wpMix; simp only [pick, j1, j2, j3, j4]; (repeat (show wpQuiet _ _ _ _ (_ :: _) _; go_big_quiet_step (fail))); refine qn ?_)
          clear HBK hO2 HD H2
          go_upto_region 35 with fail
          have hIf : Inv (hbS 1 1 ((i : Int) + 1) (tabK nm k) [frzR (xK 1 ((i : Int) + 1)) 2] La) (100 + 20 * i) := by
           have h1 := apply_inv (r := frzR (xK 1 ((i : Int) + 1)) 2) HI.out.1 (by omega)
           rw [hb_freeze hp (by omega) 2 (by omega), if_pos rfl] at h1
           exact h1
          have HF := jh hIf
          clear hIf
          have hsl3 := H3.out.1.arS.lt
          have hcl3 := H3.out.1.arC.lt
          have s0 := On.cell (show v3.cell? ⟨w.heap.size, 0, none⟩ = some (.pointer (some ⟨ga, 0, none⟩)) from H3.out.1.arS.cell 0)
          have k0 := On.cell (show v3.cell? ⟨w.heap.size + 1, 0, none⟩ = some (.pointer (some ⟨ca, 0, none⟩)) from H3.out.1.arC.cell 0)
          refine wp_region_mix (.seg [0, 1, 2, 3, 4, 5] 6 (.seg [] 7 (.leaf [8]))) (fun w' => ∃ d : Wd (On v3), w' = d.w) (by kernel_rfl) (by kernel_rfl) (fun _ _ d _ _ h => by cases d <;> exact h) (ClsW.mk (jb _ _).drew) ?_
          unfold wpMix; simp only [pick, j1, j2, j3, j4]
          (repeat (show wpQuiet _ _ _ _ (_ :: _) _; go_big_quiet_step (fail))); refine qn ?_
          have HD := jh (H3.out.1.ext (jb _ _).drew)
          have C3 := clkNow_any ca (ckK 1) v3.drew HD.out.cka (by decide)
          unfold Stamp.cells ckK at C3
          dsimp only at C3
          go_wp2_with fail
          refine C3.mono ?_
          clear C3
          rintro e v4 ⟨rfl, hb4⟩
          have hb34 : Below v3.heap.size v3 v4 := ((jb _ _).drew).tr hb4
          have H4 := jh (HD.out.ext hb4)
          have C4 := copies_any ga (hbS 1 1 ((i : Int) + 1) (tabK nm k) [frzR (xK 1 ((i : Int) + 1)) 2] La) ⟨1, 0, 1⟩ _ v4 H4.out.sta (HF.out.fit (by omega)) ⟨⟨by decide, by decide⟩, ⟨by decide, by decide⟩, ⟨by decide, by decide⟩⟩ (by show (1 : Nat) ≤ _; omega) (fun f hf => by
           rcases List.mem_singleton.1 hf with rfl
           show 1 ≤ (i : Int) + 1 ∧ (i : Int) + 1 ≤ 1099511627776
           omega)
          rw [hb_copies hp HN.out] at C4
          unfold GotOwn ptrV at C4
          clear hb4
          go_wp2_with fail
          (refine segw (D := On v3) (hb34) ?_; unfold wpMix; simp only [pick, j1, j2, j3, j4]; (repeat (show wpQuiet _ _ _ _ (_ :: _) _; go_big_quiet_step (fail))); refine qn ?_)
          go_wp2_with fail
          refine C4.mono ?_
          clear C4
          rintro e v5 ⟨⟨v, rfl, ho⟩, hb5⟩
          obtain ⟨A', q, rfl, hq1, hq2⟩ := ho.form
          have hb35 := hb34.tr hb5
          have H5 := jh (ja (H4.out.ext hb5) (ja (H3.out.2.ext hb35) (ho.row (fun _ hk => hk))))
          have hge4 := H4.out.ge
          have hz45 := hb5.size
          clear hb34 H4 HD H3 ho
          go_wp2_with fail
          (refine segw (D := On v3) (hb35) ?_; unfold wpMix; simp only [pick, j1, j2, j3, j4]; (repeat (show wpQuiet _ _ _ _ (_ :: _) _; go_big_quiet_step (fail))); refine qn ?_)
          clear s0 k0 hb35 hb5 hsl3 hcl3
          obtain ⟨b, o, cs, rfl, hbQ, hbw, hrep, hcs⟩ := H5.out.2.2.at_ (show ([cpK 1 2 ((i : Int) + 1) nm k] : List Copy)[0]? = some (cpK 1 2 ((i : Int) + 1) nm k) from rfl)
          obtain ⟨A2, q2, rfl, _⟩ := copy_rep.1 hrep
          have c3 : v5.cell? ⟨b, o + 3, none⟩ = some (.int .i64 ((i : Int) + 1 + 1)) := by
           have h := hcs 3 _ rfl
           simp at h
           exact h
          have HM := jh (ja hrep hcs)
          have hne : (((i : Int) + 1 + 1) != ((i : Int) + 2)) = false := by rw [show (i : Int) + 1 + 1 = (i : Int) + 2 from by omega]; simp
          have hi0 : 0 ≤ (i : Int) := by omega
          clear hrep hcs
          go_upto_region 38 with fail
          have HG := jh (show (ga < v4.heap.size ∧ gt < v4.heap.size) ∧ ca < v4.heap.size ∧ ct < v4.heap.size from ⟨⟨(hge4 ga (by simp)).2, (hge4 gt (by simp)).2⟩, (hge4 ca (by simp)).2, (hge4 ct (by simp)).2⟩)
          have hct4 := HG.out.2.2
          have hgt4 := HG.out.1.2
          have hct2 := (hge4 ct (by simp)).1
          clear hge4
          have HCM := jh (fun W (hW : Below v5.heap.size v5 W) => (show CopyR.rep W (fun k => v4.heap.size ≤ k ∧ k < v5.heap.size) (Copy.cells (cpK 1 2 ((i : Int) + 1) nm k) A2 q2) (cpK 1 2 ((i : Int) + 1) nm k) from by
           obtain ⟨A3, q3, e3, f1, f2, f3, f4, f5⟩ := copy_rep.1 HM.out.1
           exact copy_rep.2 ⟨A3, q3, e3, f1, f2, f3, f4, (f5.mono fun k hk hlt => ⟨hk, hlt⟩).ext hW⟩))
          have CI := jh (fun W (hW : Below v5.heap.size v5 W) => installH_any gt ct (hbS 2 1 ((i : Int) + 1) [] [] Lt) (ckK 2) (cpK 1 2 ((i : Int) + 1) nm k) A2 q2 _ (fun k => v4.heap.size ≤ k ∧ k < v5.heap.size) W (H5.out.1.ext hW).stt (HI.out.2.1.fit (by omega)) (H5.out.1.ext hW).tabs (by have := hW.size; omega) (by show (2 : Nat) ≤ _; omega) (by show (freshT []).length ≤ _; rw [fresh_nil]; decide)
           (H5.out.1.ext hW).ckt (by omega) (ckK_ok (by omega)) (H5.out.1.ne.2.2.2.1.2) ((H5.out.1.ext hW).avt ct (by simp)) (HCM.out W hW) (fun h => by omega) (insK_fair hkv).1 (insK_fair (a := 1) (t := 2) (e := (i : Int) + 1) hkv).2)
          have hsl5 := H5.out.1.arS.lt
          have hcl5 := H5.out.1.arC.lt
          obtain ⟨⟨_, _, _, _, hsct⟩, ⟨_, _, _, hcct⟩, _⟩ := H5.out.1.ne
          haveI : Nonempty (Wd (Only (fun k => k = ct) v5)) := ⟨⟨v5, Only.refl _ _⟩⟩
          have s0 := OnlyD.cell (F := (· = ct)) (show v5.cell? ⟨w.heap.size, 1, none⟩ = some (.pointer (some ⟨gt, 0, none⟩)) from H5.out.1.arS.cell 1) hsct
          have k0 := OnlyD.cell (F := (· = ct)) (show v5.cell? ⟨w.heap.size + 1, 1, none⟩ = some (.pointer (some ⟨ct, 0, none⟩)) from H5.out.1.arC.cell 1) hcct
          have HMC := jh (fun W (hW : ∃ d : Wd (Only (fun k => k = ct) v5), W = d.w) => (show ∀ (j : Nat) (u : Value), (Copy.cells (cpK 1 2 ((i : Int) + 1) nm k) A2 q2)[j]? = some u → W.cell? ⟨b, o + j, none⟩ = some u from by
           obtain ⟨d, rfl⟩ := hW
           intro j u hj
           refine OnlyD.cell (F := (· = ct)) ?_ (fun e => by have e' : b = ct := e; have hb' : v4.heap.size ≤ b := hbQ; omega) d
           have h := HM.out.2 j u hj
           simp at h
           exact h))
          go_cut [24] from 161 to 170 (fun v wx => ∃ pb A3, v = .pointer (some ⟨pb, 0, none⟩) ∧ Blk wx pb 154 (planI (.slice A3 1 1) (xK 2 (((i : Int) + 1) + 1))) ∧ RecR.Row wx (fun k => v4.heap.size ≤ k) A3 [insR (cpK 1 2 ((i : Int) + 1) nm k)] ∧ CkAt wx ct (ckK 2) ∧ Only (fun k => k = ct) v5 wx ∧ v5.heap.size ≤ pb)
          case first =>
           refine wp_region_mix (.fork [0, 1, 2, 3, 4, 5, 6, 7, 8] 9 (.seg [] 10 (.seg [] 11 (.leaf []))) 10 (.seg [] 9 (.seg [] 11 (.leaf [])))) (fun w' => ∃ d : Wd (Only (fun k => k = ct) v5), w' = d.w) (by kernel_rfl) (by kernel_rfl) (fun _ _ d _ _ h => by cases d <;> exact h) (ClsW.mk Only.drew) ?_
           unfold wpMix; simp only [pick, j1, j2, j3, j4]
           (repeat (show wpQuiet _ _ _ _ (_ :: _) _; first | (refine wpQuiet_load_at rfl rfl rfl HMC.out Tryz.underlying139 rfl (by kernel_rfl) ?_; go_simp) | go_big_quiet_step (fail))); refine qn ?_
           constructor
           ·have hb0 : Below v5.heap.size v5 v5.drew := (jb _ _).drew
            have C5 := CI.out v5.drew hb0
            unfold ptrV at C5
            unfold Copy.cells at C5 ⊢
            go_wp2_with fail
            refine C5.mono ?_
            clear C5
            rintro e v6 ⟨hgot, hck, hOc⟩
            obtain ⟨A3, rfl, hr3⟩ := hb_gotI hp (by omega) hkv HN.out hgot
            rw [cp_clk hp (by omega)] at hck
            have hO6 : Only (fun k => k = ct) v5 v6 := Only.tr Only.drew hOc
            have hz6 := hO6.size
            clear hgot hOc hb0
            go_wp2_with fail
            (refine segw (D := Only (fun k => k = ct) v5) (hO6) ?_; unfold wpMix; simp only [pick, j1, j2, j3, j4]; (repeat (show wpQuiet _ _ _ _ (_ :: _) _; go_big_quiet_step (fail))); refine qn ?_)
            go_wp2_with fail
            have hb7 : Below v6.heap.size v6 (v6.alloc (.cells #[.slice none 0 0, .int .i64 0, .int .i64 0, .int .i64 0, .int .i64 0, .bool false] 154)) := by repeat (with_reducible first | assumption | exact jb _ _ | refine Below.al ?_ _ | refine Below.drew ?_ | apply Below.st1)
            have fZ : Blk (v6.alloc (.cells #[.slice none 0 0, .int .i64 0, .int .i64 0, .int .i64 0, .int .i64 0, .bool false] 154)) v6.heap.size 154 [.slice none 0 0, .int .i64 0, .int .i64 0, .int .i64 0, .int .i64 0, .bool false] := Blk.new v6 154 [.slice none 0 0, .int .i64 0, .int .i64 0, .int .i64 0, .int .i64 0, .bool false]
            have hr7 := (hr3.mono (Q := fun k => v4.heap.size ≤ k ∧ k < v6.heap.size) fun k hk hlt => ⟨by rcases hk with hk | hk; exact Nat.le_trans hz45 hk; exact hk.1, hlt⟩).ext hb7
            have hck7 := Blk.ext hck hb7
            have hO7 := hO6.tr (jo (F := fun k => k = ct) hb7)
            clear hr3 hck hO6
            generalize v6.alloc (.cells #[.slice none 0 0, .int .i64 0, .int .i64 0, .int .i64 0, .int .i64 0, .bool false] 154) = v7 at *
            (refine segw (D := Only (fun k => k = ct) v5) (hO7) ?_; unfold wpMix; simp only [pick, j1, j2, j3, j4]; (repeat (show wpQuiet _ _ _ _ (_ :: _) _; go_big_quiet_step (fail))); refine qn ?_)
            refine wpList_store_blk (cs := planI (.slice A3 1 1) (xK 2 (((i : Int) + 1) + 1))) rfl rfl rfl rfl rfl fZ (by kernel_rfl) rfl (by simp [planI, Value.oneCell']) ?_
            intro v9 hB9 hO9 hz9
            go_simp
            have hO10 := hO7.trans hO9 (fun q hq e => by have e' : q = v6.heap.size := e; omega)
            (refine segw (D := Only (fun k => k = ct) v5) (hO10) ?_; unfold wpMix; simp only [pick, List.filterMap_nil]; (repeat (show wpQuiet _ _ _ _ (_ :: _) _; go_big_quiet_step (fail))); refine qn ?_)
            go_wp2_with fail
            go_meet
            exact ⟨_, A3, rfl, hB9, (hr7.same (Same.of_only hO9 fun k hk e => by have e' : k = v6.heap.size := e; have := hk.2; omega) hO9.size).mono fun k hk _ => hk.1, Blk.only hck7 hO9 (fun e => by have e' : ct = v6.heap.size := e; omega), hO10, hz6⟩
           ·go_wp2_with fail
            have hb6 : Below v5.heap.size v5 ((v5.alloc (.cells #[.slice none 0 0, .int .i64 0, .int .i64 0, .int .i64 0, .int .i64 0, .bool false] 154)).drew) := by repeat (with_reducible first | assumption | exact jb _ _ | refine Below.al ?_ _ | refine Below.drew ?_ | apply Below.st1)
            have fZ6 : Blk ((v5.alloc (.cells #[.slice none 0 0, .int .i64 0, .int .i64 0, .int .i64 0, .int .i64 0, .bool false] 154)).drew) v5.heap.size 154 [.slice none 0 0, .int .i64 0, .int .i64 0, .int .i64 0, .int .i64 0, .bool false] := Blk.new v5 154 [.slice none 0 0, .int .i64 0, .int .i64 0, .int .i64 0, .int .i64 0, .bool false]
            have hz6 : v5.heap.size < ((v5.alloc (.cells #[.slice none 0 0, .int .i64 0, .int .i64 0, .int .i64 0, .int .i64 0, .bool false] 154)).drew).heap.size := fZ6.lt
            generalize (v5.alloc (.cells #[.slice none 0 0, .int .i64 0, .int .i64 0, .int .i64 0, .int .i64 0, .bool false] 154)).drew = v6 at *
            (refine segw (D := Only (fun k => k = ct) v5) ((jo hb6)) ?_; unfold wpMix; simp only [pick, j1, j2, j3, j4]; (repeat (show wpQuiet _ _ _ _ (_ :: _) _; go_big_quiet_step (fail))); refine qn ?_)
            have C5 := CI.out v6 hb6
            unfold ptrV at C5
            unfold Copy.cells at C5 ⊢
            go_wp2_with fail
            refine C5.mono ?_
            clear C5
            rintro e v7 ⟨hgot, hck, hOc⟩
            obtain ⟨A3, rfl, hr3⟩ := hb_gotI hp (by omega) hkv HN.out hgot
            rw [cp_clk hp (by omega)] at hck
            have hO7 := (jo (F := fun k => k = ct) hb6).tr hOc
            have fZ7 := fZ6.only hOc (fun e => by have e' : v5.heap.size = ct := e; omega)
            have hz7 := hOc.size
            clear hgot hOc hb6 fZ6
            go_wp2_with fail
            (refine segw (D := Only (fun k => k = ct) v5) (hO7) ?_; unfold wpMix; simp only [pick, j1, j2, j3, j4]; (repeat (show wpQuiet _ _ _ _ (_ :: _) _; go_big_quiet_step (fail))); refine qn ?_)
            refine wpList_store_blk (cs := planI (.slice A3 1 1) (xK 2 (((i : Int) + 1) + 1))) rfl rfl rfl rfl rfl fZ7 (by kernel_rfl) rfl (by simp [planI, Value.oneCell']) ?_
            intro v9 hB9 hO9 hz9
            go_simp
            have hO10 := hO7.trans hO9 (fun q hq e => by have e' : q = v5.heap.size := e; omega)
            (refine segw (D := Only (fun k => k = ct) v5) (hO10) ?_; unfold wpMix; simp only [pick, List.filterMap_nil]; (repeat (show wpQuiet _ _ _ _ (_ :: _) _; go_big_quiet_step (fail))); refine qn ?_)
            go_wp2_with fail
            go_meet
            exact ⟨_, A3, rfl, hB9, (hr3.same (Same.of_only hO9 fun k hk e => by have e' : k = v5.heap.size := e; rcases hk with hk | hk <;> omega) hO9.size).mono fun k hk _ => by rcases hk with hk | hk; exact Nat.le_trans hz45 (Nat.le_trans (Nat.le_of_lt hz6) hk); exact hk.1, Blk.only hck hO9 (fun e => by have e' : ct = v5.heap.size := e; omega), hO10, Nat.le_refl _⟩
          case rest =>
           obtain ⟨pb, A3, rfl, hBp, hrp, hckp, hOp, hpb⟩ := hcut
           have hzp := hOp.size
           have hpl := hBp.lt
           have H6 := jh (ja (H5.out.1.clkT h2 hckp hOp) (ja hBp (ja hrp (H5.out.2.1.same (Same.of_only hOp fun k hk e => by have e' : k = ct := e; subst e'; exact HI.out.2.2.2 k (by simp) hk) hOp.size))))
           clear hBp hrp hckp hOp H5 CI HCM HMC HM s0 k0
           obtain ⟨bb, oo, cs, rfl, hbP, hbw, hrep, hcs⟩ := H6.out.2.2.1.at_ (show ([insR (cpK 1 2 ((i : Int) + 1) nm k)] : List Rec)[0]? = some (insR (cpK 1 2 ((i : Int) + 1) nm k)) from rfl)
           obtain ⟨nA, nc, pA, pc, sA, sc, rfl, hrec⟩ := rec_rep.1 hrep
           have hbb : v4.heap.size ≤ bb := hbP
           rw [Nat.zero_mul, Nat.add_zero] at hcs
           have HREC := jh (ja hrec hcs)
           obtain ⟨⟨_, hsg, hsgt, _, _⟩, ⟨_, _, _, _⟩, _⟩ := H6.out.1.ne
           haveI : Nonempty (Wd (Only (fun k => k = gt) wc)) := ⟨⟨wc, Only.refl _ _⟩⟩
           have s0 := OnlyD.cell (F := (· = gt)) (show wc.cell? ⟨w.heap.size, 1, none⟩ = some (.pointer (some ⟨gt, 0, none⟩)) from H6.out.1.arS.cell 1) hsgt
           have p5 := OnlyD.cell (F := (· = gt)) (show wc.cell? ⟨pb, 5, none⟩ = some (.bool true) from H6.out.2.1.cell 5) (by show pb ≠ gt; omega)
           have p0 := OnlyD.cell (F := (· = gt)) (show wc.cell? ⟨pb, 0, none⟩ = some (.slice (some ⟨bb, oo, none⟩) 1 1) from H6.out.2.1.cell 0) (by show pb ≠ gt; omega)
           have hslc := H6.out.1.arS.lt
           have HMR := jh (fun W (hW : ∃ d : Wd (Only (fun k => k = gt) wc), W = d.w) => (show ∀ (j : Nat) (u : Value), ((insR (cpK 1 2 ((i : Int) + 1) nm k)).cells nA nc pA pc sA sc)[j]? = some u → W.cell? ⟨bb, oo + j, none⟩ = some u from by
            obtain ⟨d, rfl⟩ := hW
            intro j u hj
            exact OnlyD.cell (F := (· = gt)) (HREC.out.2 j u hj) (fun e => by have e' : bb = gt := e; omega) d))
           clear hrep hrec hcs hbP
           go_wp2_with fail
           refine wp_region_mix (.seg [0, 1, 2, 3, 4, 5, 6, 7, 8, 9, 10, 11, 12, 13, 14, 15, 16] 17 (.leaf [18, 19])) (fun w' => ∃ d : Wd (Only (fun k => k = gt) wc), w' = d.w) (by kernel_rfl) (by kernel_rfl) (fun _ _ d _ _ h => by cases d <;> exact h) (ClsW.mk Only.drew) ?_
           unfold wpMix; simp only [pick, j1, j2, j3, j4]
           (repeat (show wpQuiet _ _ _ _ (_ :: _) _; first | (refine wpQuiet_load_at rfl rfl rfl HMR.out Tryz.underlying46 rfl (by kernel_rfl) ?_; go_simp) | go_big_quiet_step (fail))); refine qn ?_
           have HD := jh (H6.out.1.ext (jb _ _).drew)
           have C6 := applyH_any gt (hbS 2 1 ((i : Int) + 1) [] [] Lt) (insR (cpK 1 2 ((i : Int) + 1) nm k)) (.inr (.inr (.inl rfl))) nA pA sA nc pc sc _ _ wc.drew HD.out.stt (HD.out.avt gt (by simp)) (HI.out.2.1.fit (by omega)) (HREC.out.1.ext (js (jb _ _).drew) (Nat.le_refl _)) (fun h => by have h' : v4.heap.size ≤ gt := h; omega) (insK_fair hkv).1 HD.out.tabs (by have := (HD.out.ge ga (by simp)).1; have := (HD.out.ge gt (by simp)).1; omega) (insK_fair (a := 1) (t := 2) (e := (i : Int) + 1) hkv).2 (by show (2 : Nat) ≤ _; omega) (by show (freshT []).length ≤ _; rw [fresh_nil]; decide)
           unfold StOut at C6
           rw [hb_install hp (by omega) hkv HN.out] at C6
           unfold ptrV at C6
           go_wp2_with fail
           refine C6.mono ?_
           clear C6 s0 p5 p0
           rintro e v7 ⟨rfl, hst, hO⟩
           have hO2 : Only (fun k => k = gt) wc v7 := Only.tr Only.drew hO
           have H7 := jh (ja (HD.out.outT hp h2 hst hO) (ja (H6.out.2.1.only hO2 (fun e => by have e' : pb = gt := e; omega)) (H6.out.2.2.2.same (Same.of_only hO2 fun k hk e => by have e' : k = gt := e; subst e'; exact HI.out.2.2.2 k (by simp) hk) hO2.size)))
           have hz7 := hO2.size
           clear hst hO
           go_wp2_with fail
           (refine segw (D := Only (fun k => k = gt) wc) (hO2) ?_; unfold wpMix; simp only [pick, j1, j2, j3, j4]; (repeat (show wpQuiet _ _ _ _ (_ :: _) _; go_big_quiet_step (fail))); refine qn ?_)
           go_wp2_with fail
           clear HMR HD H6 HREC hO2
           go_upto_region 41 with fail
           have s0 := On.cell (show v7.cell? ⟨w.heap.size, 0, none⟩ = some (.pointer (some ⟨ga, 0, none⟩)) from H7.out.1.arS.cell 0)
           have hsl7 := H7.out.1.arS.lt
           have HIN := jh (fun W (hW : ∃ d : Wd (On v7), W = d.w) => (show ∀ (j : Nat) (u : Value), ([.int .i64 (xK 2 (((i : Int) + 1) + 1)).first, .int .i64 (xK 2 (((i : Int) + 1) + 1)).last, .int .i64 (xK 2 (((i : Int) + 1) + 1)).owner, .int .i64 (xK 2 (((i : Int) + 1) + 1)).epoch] : List Value)[j]? = some u → W.cell? ⟨pb, 1 + j, none⟩ = some u from by
            obtain ⟨d, rfl⟩ := hW
            intro j u hj
            refine On.cell (show v7.cell? ⟨pb, 1 + j, none⟩ = some u from ?_) d
            rw [H7.out.2.1.cell, Nat.add_comm]
            match j, hj with
            | 0, h => exact h
            | 1, h => exact h
            | 2, h => exact h
            | 3, h => exact h
            | j + 4, h => cases h))
           refine wp_region_mix (.seg [0, 1, 2, 3, 4] 5 (.leaf [6])) (fun w' => ∃ d : Wd (On v7), w' = d.w) (by kernel_rfl) (by kernel_rfl) (fun _ _ d _ _ h => by cases d <;> exact h) (ClsW.mk (jb _ _).drew) ?_
           unfold wpMix; simp only [pick, j1, j2, j3, j4]
           (repeat (show wpQuiet _ _ _ _ (_ :: _) _; first | (refine wpQuiet_load_at rfl rfl rfl HIN.out Tryz.underlying103 rfl (by kernel_rfl) ?_; go_simp) | go_big_quiet_step (fail))); refine qn ?_
           have HD := jh (H7.out.1.ext (jb _ _).drew)
           have C7 := releaseH_any ga (hbS 1 1 ((i : Int) + 1) (tabK nm k) [frzR (xK 1 ((i : Int) + 1)) 2] La) (xK 2 (((i : Int) + 1) + 1)) _ v7.drew HD.out.sta (HF.out.fit (by omega)) (xK_fit (by omega) (by omega)) (by show (1 : Int) ≤ (i : Int) + 1 + 1; omega) (by show (1 : Nat) ≤ _; omega)
           rw [hb_relP] at C7
           unfold GotRecs ptrV at C7
           go_wp2_with fail
           refine C7.mono ?_
           clear C7
           rintro e v8 ⟨⟨A4, c4, rfl, hr4⟩, hb8⟩
           have hb78 : Below v7.heap.size v7 v8 := ((jb _ _).drew).tr hb8
           have H8 := jh (ja (HD.out.ext hb8) (ja hr4 (H7.out.2.2.ext hb78)))
           have hga7 := (H7.out.1.ge ga (by simp)).2
           have hz8 := hb78.size
           clear hr4 hb8
           go_wp2_with fail
           (refine segw (D := On v7) (hb78) ?_; unfold wpMix; simp only [pick, j1, j2, j3, j4]; (repeat (show wpQuiet _ _ _ _ (_ :: _) _; go_big_quiet_step (fail))); refine qn ?_)
           clear HIN HD H7 s0 hb78 hsl7
           go_upto_region 42 with fail
           obtain ⟨b5, o5, cs5, rfl, hbP5, hbw5, hrep5, hcs5⟩ := H8.out.2.1.at_ (show ([(relR (xK 2 (((i : Int) + 1) + 1)))] : List Rec)[0]? = some (relR (xK 2 (((i : Int) + 1) + 1))) from rfl)
           obtain ⟨nA5, nc5, pA5, pc5, sA5, sc5, rfl, hrec5⟩ := rec_rep.1 hrep5
           have hbb5 : v7.heap.size ≤ b5 := hbP5
           rw [Nat.zero_mul, Nat.add_zero] at hcs5
           have HREC5 := jh (ja hrec5 hcs5)
           obtain ⟨⟨_, hsg8, _, _, _⟩, _, _⟩ := H8.out.1.ne
           haveI : Nonempty (Wd (Only (fun k => k = ga) v8)) := ⟨⟨v8, Only.refl _ _⟩⟩
           have s0 := OnlyD.cell (F := (· = ga)) (show v8.cell? ⟨w.heap.size, 0, none⟩ = some (.pointer (some ⟨ga, 0, none⟩)) from H8.out.1.arS.cell 0) hsg8
           have hsl8 := H8.out.1.arS.lt
           have HMR := jh (fun W (hW : ∃ d : Wd (Only (fun k => k = ga) v8), W = d.w) => (show ∀ (j : Nat) (u : Value), ((relR (xK 2 (((i : Int) + 1) + 1))).cells nA5 nc5 pA5 pc5 sA5 sc5)[j]? = some u → W.cell? ⟨b5, o5 + j, none⟩ = some u from by
            obtain ⟨d, rfl⟩ := hW
            intro j u hj
            exact OnlyD.cell (F := (· = ga)) (HREC5.out.2 j u hj) (fun e => by have e' : b5 = ga := e; omega) d))
           clear hrep5 hrec5 hcs5 hbP5
           refine wp_region_mix (.seg [0, 1, 2, 3, 4, 5, 6, 7, 8, 9] 10 (.leaf [11, 12])) (fun w' => ∃ d : Wd (Only (fun k => k = ga) v8), w' = d.w) (by kernel_rfl) (by kernel_rfl) (fun _ _ d _ _ h => by cases d <;> exact h) (ClsW.mk Only.drew) ?_
           unfold wpMix; simp only [pick, j1, j2, j3, j4]
           (repeat (show wpQuiet _ _ _ _ (_ :: _) _; first | (refine wpQuiet_load_at rfl rfl rfl HMR.out Tryz.underlying46 rfl (by kernel_rfl) ?_; go_simp) | go_big_quiet_step (fail))); refine qn ?_
           have HD := jh (H8.out.1.ext (jb _ _).drew)
           have C8 := applyH_any ga (hbS 1 1 ((i : Int) + 1) (tabK nm k) [frzR (xK 1 ((i : Int) + 1)) 2] La) (relR (xK 2 (((i : Int) + 1) + 1))) (.inr (.inr (.inr rfl))) nA5 pA5 sA5 nc5 pc5 sc5 _ _ v8.drew HD.out.sta (HD.out.ava ga (by simp)) (HF.out.fit (by omega)) (HREC5.out.1.ext (js (jb _ _).drew) (Nat.le_refl _)) (fun h => by have h' : v7.heap.size ≤ ga := h; omega) rel_fair HD.out.tabs (by have := (HD.out.ge ga (by simp)).1; have := (HD.out.ge gt (by simp)).1; omega) rel_put (by show (2 : Nat) ≤ _; omega) (by show (freshT (tabK nm k)).length ≤ _; rw [freshK HN.out.name (by omega)]; unfold tabK; split <;> simp)
           unfold StOut at C8
           rw [hb_release hp (by omega) hkv HN.out] at C8
           unfold ptrV at C8
           go_wp2_with fail
           refine C8.mono ?_
           clear C8 s0
           rintro e v9 ⟨rfl, hst, hO⟩
           have hO9 : Only (fun k => k = ga) v8 v9 := Only.tr Only.drew hO
           have H9 := jh (ja (HD.out.outA h2 hst hO) (H8.out.2.2.same (Same.of_only hO9 fun k hk e => by have e' : k = ga := e; subst e'; exact HI.out.2.2.2 k (by simp) hk) hO9.size))
           have hzz := hO9.size
           clear hst hO
           go_wp2_with fail
           (refine segw (D := Only (fun k => k = ga) v8) (hO9) ?_; unfold wpMix; simp only [pick, j1, j2, j3, j4]; (repeat (show wpQuiet _ _ _ _ (_ :: _) _; go_big_quiet_step (fail))); refine qn ?_)
           clear HMR HD H8 HREC5 hO9
           have hIa : Inv (hbS 1 2 ((((i + 1 : Nat) : Int)) + 1) [] [] La) (100 + 20 * (i + 1)) := by
            have h1 := apply_inv (r := (relR (xK 2 (((i : Int) + 1) + 1)))) HF.out (by omega)
            rw [hb_release hp (by omega) hkv HN.out] at h1
            exact h1.mono (by have : costR (relR (xK 2 (((i : Int) + 1) + 1))) = 0 := rfl; omega)
           have hIt : Inv (hbS 2 2 ((((i + 1 : Nat) : Int)) + 1) (tabK nm k) [] Lt) (100 + 20 * (i + 1)) := by
            have h1 := apply_inv (r := insR (cpK 1 2 ((i : Int) + 1) nm k)) HI.out.2.1 (by omega)
            rw [hb_install hp (by omega) hkv HN.out] at h1
            exact h1.mono (by have := ins_cost (a := 1) (t := 2) (e := (i : Int) + 1) (n := nm) hkv; omega)
           have HNX := jh (show HbI w w.heap.size (w.heap.size + 1) gt ga ct ca 2 1 nm k A (i + 1) v9 from
            ⟨_, _, _, _, _, H9.out.1.swap hp, hIt, hIa, H9.out.2, fun x hx hk => HI.out.2.2.2 x (by simp at hx ⊢; omega) hk⟩)
           clear H9 hIa hIt
           go_wp2_with fail
           go_round
           case rel => exact ⟨i + 1, by omega, by go_num, .inr ⟨rfl, _, _, _, _, HNX.out⟩⟩
           case measure => simp [intOf]; omega
         ·have hin : (i : Int) = n := by omega
          have s0 : wr.cell? ⟨w.heap.size, 0, none⟩ = some (.pointer (some ⟨ga, 0, none⟩)) := hR.arS.cell 0
          have sl := hR.arS.lt
          have C1 := stakeB_any ga (hbS 1 1 ((i : Int) + 1) (tabK nm k) [] La) allHashes Pa wr hR.sta (hIa.fit (by omega))
          rw [show takeT (hbS 1 1 ((i : Int) + 1) (tabK nm k) [] La).table allHashes = strK nm k from takeK nm k (inR_all nm)] at C1
          unfold GotStB ptrV allHashes at C1
          have HR := jh (ja hR.below hrow)
          clear hR hrow hIa hIt hQ
          go_wp2_with fail
          refine C1.mono ?_
          clear C1 s0 sl
          rintro e v1 ⟨⟨A9, c9, rfl, ⟨hc1, hc2⟩, hrow9⟩, hb1⟩
          have CS := sameStreams_eq A9 A c9 c _ _ v1 hrow9 (HR.out.2.ext hb1) (by omega) (fun s hs => by have := strK_each hkv s hs; omega)
          have H9 := jh (HR.out.1.tr hb1)
          clear hrow9 hb1
          go_wp2_with fail
          refine CS.mono ?_
          clear CS
          rintro e v2 ⟨rfl, hb2⟩
          have H10 := jh (H9.out.tr hb2)
          clear hb2
          go_wp2_with fail
          refine (CA.out v2 H10.out).mono ?_
          rintro e v3 ⟨rfl, hb3⟩
          have H11 := jh (H10.out.tr hb3)
          clear hb3
          go_wp2_with fail
          go_ret
          exact ⟨rfl, H11.out⟩
        ·have hp : Pair 2 1 := by unfold Pair; omega
         by_cases hlt : (i : Int) < n
         ·have he : 1 ≤ (i : Int) + 1 ∧ (i : Int) + 1 ≤ 50 := by omega
          have s0 : wr.cell? ⟨w.heap.size, 1, none⟩ = some (.pointer (some ⟨ga, 0, none⟩)) := hR.arS.cell 1
          have sl := hR.arS.lt
          have C1 := freezeH_any ga (hbS 2 2 ((i : Int) + 1) (tabK nm k) [] La) 0 1 Pa wr hR.sta (hIa.fit (by omega)) (by show (0 : Nat) ≤ _; omega) hR.tabs (by omega) (by show (2 : Nat) ≤ _; omega) (by show (freshT (tabK nm k)).length ≤ _; rw [freshK HN.out.name (by omega)]; unfold tabK; split <;> simp) (rg_fit (a := 2) (by omega) (by omega))
          have HR := jh hR
          have HI := jh (ja hIa (ja hIt (ja hrow hQ)))
          clear hR hIa hIt hrow hQ
          unfold ptrV at C1
          go_wp2_with fail
          refine C1.mono ?_
          clear C1
          rintro e v1 ⟨hgot, hb1⟩
          obtain rfl := hb_gotF hp (by omega) hkv HN.out hgot
          have H1 := jh (ja (HR.out.ext hb1) (HI.out.2.2.1.ext hb1))
          clear hgot hb1 HR s0 sl
          unfold frzV
          go_upto_region 33 with (first
           | (refine wpList_store_new (cs := #[.int .i64 9, .int .i64 0, .int .i64 1, .bool false, .int .i64 0, .int .i64 0, .int .i64 0, .int .i64 0, .int .i64 0, .int .i64 0, .slice none 0 0, .string ⟨#[]⟩, .slice none 0 0, .int .i64 (xK 2 ((i : Int) + 1)).first, .int .i64 (xK 2 ((i : Int) + 1)).last, .int .i64 (xK 2 ((i : Int) + 1)).owner, .int .i64 (xK 2 ((i : Int) + 1)).epoch, .slice none 0 0]) rfl rfl rfl rfl rfl (by kernel_rfl) rfl (by simp [Value.oneCell']) ?_)
           | fail)
          have hbA : Below v1.heap.size v1 (v1.alloc (.cells #[.int .i64 9, .int .i64 0, .int .i64 1, .bool false, .int .i64 0, .int .i64 0, .int .i64 0, .int .i64 0, .int .i64 0, .int .i64 0, .slice none 0 0, .string ⟨#[]⟩, .slice none 0 0, .int .i64 (xK 2 ((i : Int) + 1)).first, .int .i64 (xK 2 ((i : Int) + 1)).last, .int .i64 (xK 2 ((i : Int) + 1)).owner, .int .i64 (xK 2 ((i : Int) + 1)).epoch, .slice none 0 0] 46)) := by repeat (with_reducible first | assumption | exact jb _ _ | refine Below.al ?_ _ | refine Below.drew ?_ | apply Below.st1)
          have H2 := jh (ja (H1.out.1.ext hbA) (ja (H1.out.2.ext hbA) (Blk.new v1 46 [.int .i64 9, .int .i64 0, .int .i64 1, .bool false, .int .i64 0, .int .i64 0, .int .i64 0, .int .i64 0, .int .i64 0, .int .i64 0, .slice none 0 0, .string ⟨#[]⟩, .slice none 0 0, .int .i64 (xK 2 ((i : Int) + 1)).first, .int .i64 (xK 2 ((i : Int) + 1)).last, .int .i64 (xK 2 ((i : Int) + 1)).owner, .int .i64 (xK 2 ((i : Int) + 1)).epoch, .slice none 0 0])))
          generalize v1.alloc (.cells #[.int .i64 9, .int .i64 0, .int .i64 1, .bool false, .int .i64 0, .int .i64 0, .int .i64 0, .int .i64 0, .int .i64 0, .int .i64 0, .slice none 0 0, .string ⟨#[]⟩, .slice none 0 0, .int .i64 (xK 2 ((i : Int) + 1)).first, .int .i64 (xK 2 ((i : Int) + 1)).last, .int .i64 (xK 2 ((i : Int) + 1)).owner, .int .i64 (xK 2 ((i : Int) + 1)).epoch, .slice none 0 0] 46) = v2 at *
          have hz2 := hbA.size
          have hga := H1.out.1.ge ga (by simp)
          have hsg := H1.out.1.ne.1.2.1
          clear hbA H1
          haveI : Nonempty (Wd (Only (fun k => k = ga) v2)) := ⟨⟨v2, Only.refl _ _⟩⟩
          have s0 := OnlyD.cell (F := (· = ga)) (show v2.cell? ⟨w.heap.size, 1, none⟩ = some (.pointer (some ⟨ga, 0, none⟩)) from H2.out.1.arS.cell 1) hsg
          have HBK := jh (fun W (hW : ∃ d : Wd (Only (fun k => k = ga) v2), W = d.w) => (show Blk W v1.heap.size 46 [.int .i64 9, .int .i64 0, .int .i64 1, .bool false, .int .i64 0, .int .i64 0, .int .i64 0, .int .i64 0, .int .i64 0, .int .i64 0, .slice none 0 0, .string ⟨#[]⟩, .slice none 0 0, .int .i64 (xK 2 ((i : Int) + 1)).first, .int .i64 (xK 2 ((i : Int) + 1)).last, .int .i64 (xK 2 ((i : Int) + 1)).owner, .int .i64 (xK 2 ((i : Int) + 1)).epoch, .slice none 0 0] from by
           obtain ⟨d, rfl⟩ := hW
           exact H2.out.2.2.only d.ok (fun e => by have e' : v1.heap.size = ga := e; omega)))
          refine wp_region_mix (.seg [0, 1, 2, 3, 4, 5, 6] 7 (.leaf [8, 9])) (fun w' => ∃ d : Wd (Only (fun k => k = ga) v2), w' = d.w) (by kernel_rfl) (by kernel_rfl) (fun _ _ d _ _ h => by cases d <;> exact h) (ClsW.mk Only.drew) ?_
          unfold wpMix; simp only [pick, j1, j2, j3, j4]
          (repeat (show wpQuiet _ _ _ _ (_ :: _) _; first | (refine wpQuiet_load_blk rfl rfl rfl HBK.out Tryz.underlying46 rfl (by kernel_rfl) ?_; go_simp) | go_big_quiet_step (fail))); refine qn ?_
          have HD := jh (H2.out.1.ext (jb _ _).drew)
          have C2 := applyH_any ga (hbS 2 2 ((i : Int) + 1) (tabK nm k) [] La) (frzR (xK 2 ((i : Int) + 1)) 1) (.inr (.inl rfl)) none none none 0 0 0 _ (fun _ => False) v2.drew HD.out.sta (HD.out.ava ga (by simp)) (HI.out.1.fit (by omega)) (frz_at (xK_fit (by omega) (by omega)) (i64_small 1 (by omega))) (fun h => h) frz_fair HD.out.tabs (by have := (HD.out.ge ga (by simp)).1; have := (HD.out.ge gt (by simp)).1; omega) frz_put (by show (2 : Nat) ≤ _; omega) (by show (freshT (tabK nm k)).length ≤ _; rw [freshK HN.out.name (by omega)]; unfold tabK; split <;> simp)
          unfold StOut at C2
          rw [frz_cells, hb_freeze hp (by omega) 1 (by omega), if_pos rfl] at C2
          unfold frzV ptrV at C2
          go_wp2_with fail
          refine C2.mono ?_
          clear C2 s0
          rintro e v3 ⟨rfl, hst, hO⟩
          have H3 := jh (ja (HD.out.outA h2 hst hO) (H2.out.2.1.same (Same.of_only ((Only.drew).tr hO) fun k hk e => by have e' : k = ga := e; subst e'; exact HI.out.2.2.2 k (by simp) hk) (by have := hO.size; simpa using this)))
          have hO2 : Only (fun k => k = ga) v2 v3 := Only.tr Only.drew hO
          have hz3 := hO2.size
          clear hst hO
          go_wp2_with fail
          (refine segw (D := Only (fun k => k = ga) v2) (hO2) ?_; unfold wpMix; simp only [pick, j1, j2, j3, j4]; (repeat (show wpQuiet _ _ _ _ (_ :: _) _; go_big_quiet_step (fail))); refine qn ?_)
          clear HBK hO2 HD H2
          go_upto_region 35 with fail
          have hIf : Inv (hbS 2 2 ((i : Int) + 1) (tabK nm k) [frzR (xK 2 ((i : Int) + 1)) 1] La) (100 + 20 * i) := by
           have h1 := apply_inv (r := frzR (xK 2 ((i : Int) + 1)) 1) HI.out.1 (by omega)
           rw [hb_freeze hp (by omega) 1 (by omega), if_pos rfl] at h1
           exact h1
          have HF := jh hIf
          clear hIf
          have hsl3 := H3.out.1.arS.lt
          have hcl3 := H3.out.1.arC.lt
          have s0 := On.cell (show v3.cell? ⟨w.heap.size, 1, none⟩ = some (.pointer (some ⟨ga, 0, none⟩)) from H3.out.1.arS.cell 1)
          have k0 := On.cell (show v3.cell? ⟨w.heap.size + 1, 1, none⟩ = some (.pointer (some ⟨ca, 0, none⟩)) from H3.out.1.arC.cell 1)
          refine wp_region_mix (.seg [0, 1, 2, 3, 4, 5] 6 (.seg [] 7 (.leaf [8]))) (fun w' => ∃ d : Wd (On v3), w' = d.w) (by kernel_rfl) (by kernel_rfl) (fun _ _ d _ _ h => by cases d <;> exact h) (ClsW.mk (jb _ _).drew) ?_
          unfold wpMix; simp only [pick, j1, j2, j3, j4]
          (repeat (show wpQuiet _ _ _ _ (_ :: _) _; go_big_quiet_step (fail))); refine qn ?_
          have HD := jh (H3.out.1.ext (jb _ _).drew)
          have C3 := clkNow_any ca (ckK 2) v3.drew HD.out.cka (by decide)
          unfold Stamp.cells ckK at C3
          dsimp only at C3
          go_wp2_with fail
          refine C3.mono ?_
          clear C3
          rintro e v4 ⟨rfl, hb4⟩
          have hb34 : Below v3.heap.size v3 v4 := ((jb _ _).drew).tr hb4
          have H4 := jh (HD.out.ext hb4)
          have C4 := copies_any ga (hbS 2 2 ((i : Int) + 1) (tabK nm k) [frzR (xK 2 ((i : Int) + 1)) 1] La) ⟨1, 0, 2⟩ _ v4 H4.out.sta (HF.out.fit (by omega)) ⟨⟨by decide, by decide⟩, ⟨by decide, by decide⟩, ⟨by decide, by decide⟩⟩ (by show (1 : Nat) ≤ _; omega) (fun f hf => by
           rcases List.mem_singleton.1 hf with rfl
           show 1 ≤ (i : Int) + 1 ∧ (i : Int) + 1 ≤ 1099511627776
           omega)
          rw [hb_copies hp HN.out] at C4
          unfold GotOwn ptrV at C4
          clear hb4
          go_wp2_with fail
          (refine segw (D := On v3) (hb34) ?_; unfold wpMix; simp only [pick, j1, j2, j3, j4]; (repeat (show wpQuiet _ _ _ _ (_ :: _) _; go_big_quiet_step (fail))); refine qn ?_)
          go_wp2_with fail
          refine C4.mono ?_
          clear C4
          rintro e v5 ⟨⟨v, rfl, ho⟩, hb5⟩
          obtain ⟨A', q, rfl, hq1, hq2⟩ := ho.form
          have hb35 := hb34.tr hb5
          have H5 := jh (ja (H4.out.ext hb5) (ja (H3.out.2.ext hb35) (ho.row (fun _ hk => hk))))
          have hge4 := H4.out.ge
          have hz45 := hb5.size
          clear hb34 H4 HD H3 ho
          go_wp2_with fail
          (refine segw (D := On v3) (hb35) ?_; unfold wpMix; simp only [pick, j1, j2, j3, j4]; (repeat (show wpQuiet _ _ _ _ (_ :: _) _; go_big_quiet_step (fail))); refine qn ?_)
          clear s0 k0 hb35 hb5 hsl3 hcl3
          obtain ⟨b, o, cs, rfl, hbQ, hbw, hrep, hcs⟩ := H5.out.2.2.at_ (show ([cpK 2 1 ((i : Int) + 1) nm k] : List Copy)[0]? = some (cpK 2 1 ((i : Int) + 1) nm k) from rfl)
          obtain ⟨A2, q2, rfl, _⟩ := copy_rep.1 hrep
          have c3 : v5.cell? ⟨b, o + 3, none⟩ = some (.int .i64 ((i : Int) + 1 + 1)) := by
           have h := hcs 3 _ rfl
           simp at h
           exact h
          have HM := jh (ja hrep hcs)
          have hne : (((i : Int) + 1 + 1) != ((i : Int) + 2)) = false := by rw [show (i : Int) + 1 + 1 = (i : Int) + 2 from by omega]; simp
          have hi0 : 0 ≤ (i : Int) := by omega
          clear hrep hcs
          go_upto_region 38 with fail
          have HG := jh (show (ga < v4.heap.size ∧ gt < v4.heap.size) ∧ ca < v4.heap.size ∧ ct < v4.heap.size from ⟨⟨(hge4 ga (by simp)).2, (hge4 gt (by simp)).2⟩, (hge4 ca (by simp)).2, (hge4 ct (by simp)).2⟩)
          have hct4 := HG.out.2.2
          have hgt4 := HG.out.1.2
          have hct2 := (hge4 ct (by simp)).1
          clear hge4
          have HCM := jh (fun W (hW : Below v5.heap.size v5 W) => (show CopyR.rep W (fun k => v4.heap.size ≤ k ∧ k < v5.heap.size) (Copy.cells (cpK 2 1 ((i : Int) + 1) nm k) A2 q2) (cpK 2 1 ((i : Int) + 1) nm k) from by
           obtain ⟨A3, q3, e3, f1, f2, f3, f4, f5⟩ := copy_rep.1 HM.out.1
           exact copy_rep.2 ⟨A3, q3, e3, f1, f2, f3, f4, (f5.mono fun k hk hlt => ⟨hk, hlt⟩).ext hW⟩))
          have CI := jh (fun W (hW : Below v5.heap.size v5 W) => installH_any gt ct (hbS 1 2 ((i : Int) + 1) [] [] Lt) (ckK 1) (cpK 2 1 ((i : Int) + 1) nm k) A2 q2 _ (fun k => v4.heap.size ≤ k ∧ k < v5.heap.size) W (H5.out.1.ext hW).stt (HI.out.2.1.fit (by omega)) (H5.out.1.ext hW).tabs (by have := hW.size; omega) (by show (2 : Nat) ≤ _; omega) (by show (freshT []).length ≤ _; rw [fresh_nil]; decide)
           (H5.out.1.ext hW).ckt (by omega) (ckK_ok (by omega)) (H5.out.1.ne.2.2.2.1.2) ((H5.out.1.ext hW).avt ct (by simp)) (HCM.out W hW) (fun h => by omega) (insK_fair hkv).1 (insK_fair (a := 2) (t := 1) (e := (i : Int) + 1) hkv).2)
          have hsl5 := H5.out.1.arS.lt
          have hcl5 := H5.out.1.arC.lt
          obtain ⟨⟨_, _, _, _, hsct⟩, ⟨_, _, _, hcct⟩, _⟩ := H5.out.1.ne
          haveI : Nonempty (Wd (Only (fun k => k = ct) v5)) := ⟨⟨v5, Only.refl _ _⟩⟩
          have s0 := OnlyD.cell (F := (· = ct)) (show v5.cell? ⟨w.heap.size, 0, none⟩ = some (.pointer (some ⟨gt, 0, none⟩)) from H5.out.1.arS.cell 0) hsct
          have k0 := OnlyD.cell (F := (· = ct)) (show v5.cell? ⟨w.heap.size + 1, 0, none⟩ = some (.pointer (some ⟨ct, 0, none⟩)) from H5.out.1.arC.cell 0) hcct
          have HMC := jh (fun W (hW : ∃ d : Wd (Only (fun k => k = ct) v5), W = d.w) => (show ∀ (j : Nat) (u : Value), (Copy.cells (cpK 2 1 ((i : Int) + 1) nm k) A2 q2)[j]? = some u → W.cell? ⟨b, o + j, none⟩ = some u from by
           obtain ⟨d, rfl⟩ := hW
           intro j u hj
           refine OnlyD.cell (F := (· = ct)) ?_ (fun e => by have e' : b = ct := e; have hb' : v4.heap.size ≤ b := hbQ; omega) d
           have h := HM.out.2 j u hj
           simp at h
           exact h))
          go_cut [24] from 161 to 170 (fun v wx => ∃ pb A3, v = .pointer (some ⟨pb, 0, none⟩) ∧ Blk wx pb 154 (planI (.slice A3 1 1) (xK 1 (((i : Int) + 1) + 1))) ∧ RecR.Row wx (fun k => v4.heap.size ≤ k) A3 [insR (cpK 2 1 ((i : Int) + 1) nm k)] ∧ CkAt wx ct (ckK 1) ∧ Only (fun k => k = ct) v5 wx ∧ v5.heap.size ≤ pb)
          case first =>
           refine wp_region_mix (.fork [0, 1, 2, 3, 4, 5, 6, 7, 8] 9 (.seg [] 10 (.seg [] 11 (.leaf []))) 10 (.seg [] 9 (.seg [] 11 (.leaf [])))) (fun w' => ∃ d : Wd (Only (fun k => k = ct) v5), w' = d.w) (by kernel_rfl) (by kernel_rfl) (fun _ _ d _ _ h => by cases d <;> exact h) (ClsW.mk Only.drew) ?_
           unfold wpMix; simp only [pick, j1, j2, j3, j4]
           (repeat (show wpQuiet _ _ _ _ (_ :: _) _; first | (refine wpQuiet_load_at rfl rfl rfl HMC.out Tryz.underlying139 rfl (by kernel_rfl) ?_; go_simp) | go_big_quiet_step (fail))); refine qn ?_
           constructor
           ·have hb0 : Below v5.heap.size v5 v5.drew := (jb _ _).drew
            have C5 := CI.out v5.drew hb0
            unfold ptrV at C5
            unfold Copy.cells at C5 ⊢
            go_wp2_with fail
            refine C5.mono ?_
            clear C5
            rintro e v6 ⟨hgot, hck, hOc⟩
            obtain ⟨A3, rfl, hr3⟩ := hb_gotI hp (by omega) hkv HN.out hgot
            rw [cp_clk hp (by omega)] at hck
            have hO6 : Only (fun k => k = ct) v5 v6 := Only.tr Only.drew hOc
            have hz6 := hO6.size
            clear hgot hOc hb0
            go_wp2_with fail
            (refine segw (D := Only (fun k => k = ct) v5) (hO6) ?_; unfold wpMix; simp only [pick, j1, j2, j3, j4]; (repeat (show wpQuiet _ _ _ _ (_ :: _) _; go_big_quiet_step (fail))); refine qn ?_)
            go_wp2_with fail
            have hb7 : Below v6.heap.size v6 (v6.alloc (.cells #[.slice none 0 0, .int .i64 0, .int .i64 0, .int .i64 0, .int .i64 0, .bool false] 154)) := by repeat (with_reducible first | assumption | exact jb _ _ | refine Below.al ?_ _ | refine Below.drew ?_ | apply Below.st1)
            have fZ : Blk (v6.alloc (.cells #[.slice none 0 0, .int .i64 0, .int .i64 0, .int .i64 0, .int .i64 0, .bool false] 154)) v6.heap.size 154 [.slice none 0 0, .int .i64 0, .int .i64 0, .int .i64 0, .int .i64 0, .bool false] := Blk.new v6 154 [.slice none 0 0, .int .i64 0, .int .i64 0, .int .i64 0, .int .i64 0, .bool false]
            have hr7 := (hr3.mono (Q := fun k => v4.heap.size ≤ k ∧ k < v6.heap.size) fun k hk hlt => ⟨by rcases hk with hk | hk; exact Nat.le_trans hz45 hk; exact hk.1, hlt⟩).ext hb7
            have hck7 := Blk.ext hck hb7
            have hO7 := hO6.tr (jo (F := fun k => k = ct) hb7)
            clear hr3 hck hO6
            generalize v6.alloc (.cells #[.slice none 0 0, .int .i64 0, .int .i64 0, .int .i64 0, .int .i64 0, .bool false] 154) = v7 at *
            (refine segw (D := Only (fun k => k = ct) v5) (hO7) ?_; unfold wpMix; simp only [pick, j1, j2, j3, j4]; (repeat (show wpQuiet _ _ _ _ (_ :: _) _; go_big_quiet_step (fail))); refine qn ?_)
            refine wpList_store_blk (cs := planI (.slice A3 1 1) (xK 1 (((i : Int) + 1) + 1))) rfl rfl rfl rfl rfl fZ (by kernel_rfl) rfl (by simp [planI, Value.oneCell']) ?_
            intro v9 hB9 hO9 hz9
            go_simp
            have hO10 := hO7.trans hO9 (fun q hq e => by have e' : q = v6.heap.size := e; omega)
            (refine segw (D := Only (fun k => k = ct) v5) (hO10) ?_; unfold wpMix; simp only [pick, List.filterMap_nil]; (repeat (show wpQuiet _ _ _ _ (_ :: _) _; go_big_quiet_step (fail))); refine qn ?_)
            go_wp2_with fail
            go_meet
            exact ⟨_, A3, rfl, hB9, (hr7.same (Same.of_only hO9 fun k hk e => by have e' : k = v6.heap.size := e; have := hk.2; omega) hO9.size).mono fun k hk _ => hk.1, Blk.only hck7 hO9 (fun e => by have e' : ct = v6.heap.size := e; omega), hO10, hz6⟩
           ·go_wp2_with fail
            have hb6 : Below v5.heap.size v5 ((v5.alloc (.cells #[.slice none 0 0, .int .i64 0, .int .i64 0, .int .i64 0, .int .i64 0, .bool false] 154)).drew) := by repeat (with_reducible first | assumption | exact jb _ _ | refine Below.al ?_ _ | refine Below.drew ?_ | apply Below.st1)
            have fZ6 : Blk ((v5.alloc (.cells #[.slice none 0 0, .int .i64 0, .int .i64 0, .int .i64 0, .int .i64 0, .bool false] 154)).drew) v5.heap.size 154 [.slice none 0 0, .int .i64 0, .int .i64 0, .int .i64 0, .int .i64 0, .bool false] := Blk.new v5 154 [.slice none 0 0, .int .i64 0, .int .i64 0, .int .i64 0, .int .i64 0, .bool false]
            have hz6 : v5.heap.size < ((v5.alloc (.cells #[.slice none 0 0, .int .i64 0, .int .i64 0, .int .i64 0, .int .i64 0, .bool false] 154)).drew).heap.size := fZ6.lt
            generalize (v5.alloc (.cells #[.slice none 0 0, .int .i64 0, .int .i64 0, .int .i64 0, .int .i64 0, .bool false] 154)).drew = v6 at *
            (refine segw (D := Only (fun k => k = ct) v5) ((jo hb6)) ?_; unfold wpMix; simp only [pick, j1, j2, j3, j4]; (repeat (show wpQuiet _ _ _ _ (_ :: _) _; go_big_quiet_step (fail))); refine qn ?_)
            have C5 := CI.out v6 hb6
            unfold ptrV at C5
            unfold Copy.cells at C5 ⊢
            go_wp2_with fail
            refine C5.mono ?_
            clear C5
            rintro e v7 ⟨hgot, hck, hOc⟩
            obtain ⟨A3, rfl, hr3⟩ := hb_gotI hp (by omega) hkv HN.out hgot
            rw [cp_clk hp (by omega)] at hck
            have hO7 := (jo (F := fun k => k = ct) hb6).tr hOc
            have fZ7 := fZ6.only hOc (fun e => by have e' : v5.heap.size = ct := e; omega)
            have hz7 := hOc.size
            clear hgot hOc hb6 fZ6
            go_wp2_with fail
            (refine segw (D := Only (fun k => k = ct) v5) (hO7) ?_; unfold wpMix; simp only [pick, j1, j2, j3, j4]; (repeat (show wpQuiet _ _ _ _ (_ :: _) _; go_big_quiet_step (fail))); refine qn ?_)
            refine wpList_store_blk (cs := planI (.slice A3 1 1) (xK 1 (((i : Int) + 1) + 1))) rfl rfl rfl rfl rfl fZ7 (by kernel_rfl) rfl (by simp [planI, Value.oneCell']) ?_
            intro v9 hB9 hO9 hz9
            go_simp
            have hO10 := hO7.trans hO9 (fun q hq e => by have e' : q = v5.heap.size := e; omega)
            (refine segw (D := Only (fun k => k = ct) v5) (hO10) ?_; unfold wpMix; simp only [pick, List.filterMap_nil]; (repeat (show wpQuiet _ _ _ _ (_ :: _) _; go_big_quiet_step (fail))); refine qn ?_)
            go_wp2_with fail
            go_meet
            exact ⟨_, A3, rfl, hB9, (hr3.same (Same.of_only hO9 fun k hk e => by have e' : k = v5.heap.size := e; rcases hk with hk | hk <;> omega) hO9.size).mono fun k hk _ => by rcases hk with hk | hk; exact Nat.le_trans hz45 (Nat.le_trans (Nat.le_of_lt hz6) hk); exact hk.1, Blk.only hck hO9 (fun e => by have e' : ct = v5.heap.size := e; omega), hO10, Nat.le_refl _⟩
          case rest =>
           obtain ⟨pb, A3, rfl, hBp, hrp, hckp, hOp, hpb⟩ := hcut
           have hzp := hOp.size
           have hpl := hBp.lt
           have H6 := jh (ja (H5.out.1.clkT h2 hckp hOp) (ja hBp (ja hrp (H5.out.2.1.same (Same.of_only hOp fun k hk e => by have e' : k = ct := e; subst e'; exact HI.out.2.2.2 k (by simp) hk) hOp.size))))
           clear hBp hrp hckp hOp H5 CI HCM HMC HM s0 k0
           obtain ⟨bb, oo, cs, rfl, hbP, hbw, hrep, hcs⟩ := H6.out.2.2.1.at_ (show ([insR (cpK 2 1 ((i : Int) + 1) nm k)] : List Rec)[0]? = some (insR (cpK 2 1 ((i : Int) + 1) nm k)) from rfl)
           obtain ⟨nA, nc, pA, pc, sA, sc, rfl, hrec⟩ := rec_rep.1 hrep
           have hbb : v4.heap.size ≤ bb := hbP
           rw [Nat.zero_mul, Nat.add_zero] at hcs
           have HREC := jh (ja hrec hcs)
           obtain ⟨⟨_, hsg, hsgt, _, _⟩, ⟨_, _, _, _⟩, _⟩ := H6.out.1.ne
           haveI : Nonempty (Wd (Only (fun k => k = gt) wc)) := ⟨⟨wc, Only.refl _ _⟩⟩
           have s0 := OnlyD.cell (F := (· = gt)) (show wc.cell? ⟨w.heap.size, 0, none⟩ = some (.pointer (some ⟨gt, 0, none⟩)) from H6.out.1.arS.cell 0) hsgt
           have p5 := OnlyD.cell (F := (· = gt)) (show wc.cell? ⟨pb, 5, none⟩ = some (.bool true) from H6.out.2.1.cell 5) (by show pb ≠ gt; omega)
           have p0 := OnlyD.cell (F := (· = gt)) (show wc.cell? ⟨pb, 0, none⟩ = some (.slice (some ⟨bb, oo, none⟩) 1 1) from H6.out.2.1.cell 0) (by show pb ≠ gt; omega)
           have hslc := H6.out.1.arS.lt
           have HMR := jh (fun W (hW : ∃ d : Wd (Only (fun k => k = gt) wc), W = d.w) => (show ∀ (j : Nat) (u : Value), ((insR (cpK 2 1 ((i : Int) + 1) nm k)).cells nA nc pA pc sA sc)[j]? = some u → W.cell? ⟨bb, oo + j, none⟩ = some u from by
            obtain ⟨d, rfl⟩ := hW
            intro j u hj
            exact OnlyD.cell (F := (· = gt)) (HREC.out.2 j u hj) (fun e => by have e' : bb = gt := e; omega) d))
           clear hrep hrec hcs hbP
           go_wp2_with fail
           refine wp_region_mix (.seg [0, 1, 2, 3, 4, 5, 6, 7, 8, 9, 10, 11, 12, 13, 14, 15, 16] 17 (.leaf [18, 19])) (fun w' => ∃ d : Wd (Only (fun k => k = gt) wc), w' = d.w) (by kernel_rfl) (by kernel_rfl) (fun _ _ d _ _ h => by cases d <;> exact h) (ClsW.mk Only.drew) ?_
           unfold wpMix; simp only [pick, j1, j2, j3, j4]
           (repeat (show wpQuiet _ _ _ _ (_ :: _) _; first | (refine wpQuiet_load_at rfl rfl rfl HMR.out Tryz.underlying46 rfl (by kernel_rfl) ?_; go_simp) | go_big_quiet_step (fail))); refine qn ?_
           have HD := jh (H6.out.1.ext (jb _ _).drew)
           have C6 := applyH_any gt (hbS 1 2 ((i : Int) + 1) [] [] Lt) (insR (cpK 2 1 ((i : Int) + 1) nm k)) (.inr (.inr (.inl rfl))) nA pA sA nc pc sc _ _ wc.drew HD.out.stt (HD.out.avt gt (by simp)) (HI.out.2.1.fit (by omega)) (HREC.out.1.ext (js (jb _ _).drew) (Nat.le_refl _)) (fun h => by have h' : v4.heap.size ≤ gt := h; omega) (insK_fair hkv).1 HD.out.tabs (by have := (HD.out.ge ga (by simp)).1; have := (HD.out.ge gt (by simp)).1; omega) (insK_fair (a := 2) (t := 1) (e := (i : Int) + 1) hkv).2 (by show (2 : Nat) ≤ _; omega) (by show (freshT []).length ≤ _; rw [fresh_nil]; decide)
           unfold StOut at C6
           rw [hb_install hp (by omega) hkv HN.out] at C6
           unfold ptrV at C6
           go_wp2_with fail
           refine C6.mono ?_
           clear C6 s0 p5 p0
           rintro e v7 ⟨rfl, hst, hO⟩
           have hO2 : Only (fun k => k = gt) wc v7 := Only.tr Only.drew hO
           have H7 := jh (ja (HD.out.outT hp h2 hst hO) (ja (H6.out.2.1.only hO2 (fun e => by have e' : pb = gt := e; omega)) (H6.out.2.2.2.same (Same.of_only hO2 fun k hk e => by have e' : k = gt := e; subst e'; exact HI.out.2.2.2 k (by simp) hk) hO2.size)))
           have hz7 := hO2.size
           clear hst hO
           go_wp2_with fail
           (refine segw (D := Only (fun k => k = gt) wc) (hO2) ?_; unfold wpMix; simp only [pick, j1, j2, j3, j4]; (repeat (show wpQuiet _ _ _ _ (_ :: _) _; go_big_quiet_step (fail))); refine qn ?_)
           go_wp2_with fail
           clear HMR HD H6 HREC hO2
           go_upto_region 41 with fail
           have s0 := On.cell (show v7.cell? ⟨w.heap.size, 1, none⟩ = some (.pointer (some ⟨ga, 0, none⟩)) from H7.out.1.arS.cell 1)
           have hsl7 := H7.out.1.arS.lt
           have HIN := jh (fun W (hW : ∃ d : Wd (On v7), W = d.w) => (show ∀ (j : Nat) (u : Value), ([.int .i64 (xK 1 (((i : Int) + 1) + 1)).first, .int .i64 (xK 1 (((i : Int) + 1) + 1)).last, .int .i64 (xK 1 (((i : Int) + 1) + 1)).owner, .int .i64 (xK 1 (((i : Int) + 1) + 1)).epoch] : List Value)[j]? = some u → W.cell? ⟨pb, 1 + j, none⟩ = some u from by
            obtain ⟨d, rfl⟩ := hW
            intro j u hj
            refine On.cell (show v7.cell? ⟨pb, 1 + j, none⟩ = some u from ?_) d
            rw [H7.out.2.1.cell, Nat.add_comm]
            match j, hj with
            | 0, h => exact h
            | 1, h => exact h
            | 2, h => exact h
            | 3, h => exact h
            | j + 4, h => cases h))
           refine wp_region_mix (.seg [0, 1, 2, 3, 4] 5 (.leaf [6])) (fun w' => ∃ d : Wd (On v7), w' = d.w) (by kernel_rfl) (by kernel_rfl) (fun _ _ d _ _ h => by cases d <;> exact h) (ClsW.mk (jb _ _).drew) ?_
           unfold wpMix; simp only [pick, j1, j2, j3, j4]
           (repeat (show wpQuiet _ _ _ _ (_ :: _) _; first | (refine wpQuiet_load_at rfl rfl rfl HIN.out Tryz.underlying103 rfl (by kernel_rfl) ?_; go_simp) | go_big_quiet_step (fail))); refine qn ?_
           have HD := jh (H7.out.1.ext (jb _ _).drew)
           have C7 := releaseH_any ga (hbS 2 2 ((i : Int) + 1) (tabK nm k) [frzR (xK 2 ((i : Int) + 1)) 1] La) (xK 1 (((i : Int) + 1) + 1)) _ v7.drew HD.out.sta (HF.out.fit (by omega)) (xK_fit (by omega) (by omega)) (by show (1 : Int) ≤ (i : Int) + 1 + 1; omega) (by show (1 : Nat) ≤ _; omega)
           rw [hb_relP] at C7
           unfold GotRecs ptrV at C7
           go_wp2_with fail
           refine C7.mono ?_
           clear C7
           rintro e v8 ⟨⟨A4, c4, rfl, hr4⟩, hb8⟩
           have hb78 : Below v7.heap.size v7 v8 := ((jb _ _).drew).tr hb8
           have H8 := jh (ja (HD.out.ext hb8) (ja hr4 (H7.out.2.2.ext hb78)))
           have hga7 := (H7.out.1.ge ga (by simp)).2
           have hz8 := hb78.size
           clear hr4 hb8
           go_wp2_with fail
           (refine segw (D := On v7) (hb78) ?_; unfold wpMix; simp only [pick, j1, j2, j3, j4]; (repeat (show wpQuiet _ _ _ _ (_ :: _) _; go_big_quiet_step (fail))); refine qn ?_)
           clear HIN HD H7 s0 hb78 hsl7
           go_upto_region 42 with fail
           obtain ⟨b5, o5, cs5, rfl, hbP5, hbw5, hrep5, hcs5⟩ := H8.out.2.1.at_ (show ([(relR (xK 1 (((i : Int) + 1) + 1)))] : List Rec)[0]? = some (relR (xK 1 (((i : Int) + 1) + 1))) from rfl)
           obtain ⟨nA5, nc5, pA5, pc5, sA5, sc5, rfl, hrec5⟩ := rec_rep.1 hrep5
           have hbb5 : v7.heap.size ≤ b5 := hbP5
           rw [Nat.zero_mul, Nat.add_zero] at hcs5
           have HREC5 := jh (ja hrec5 hcs5)
           obtain ⟨⟨_, hsg8, _, _, _⟩, _, _⟩ := H8.out.1.ne
           haveI : Nonempty (Wd (Only (fun k => k = ga) v8)) := ⟨⟨v8, Only.refl _ _⟩⟩
           have s0 := OnlyD.cell (F := (· = ga)) (show v8.cell? ⟨w.heap.size, 1, none⟩ = some (.pointer (some ⟨ga, 0, none⟩)) from H8.out.1.arS.cell 1) hsg8
           have hsl8 := H8.out.1.arS.lt
           have HMR := jh (fun W (hW : ∃ d : Wd (Only (fun k => k = ga) v8), W = d.w) => (show ∀ (j : Nat) (u : Value), ((relR (xK 1 (((i : Int) + 1) + 1))).cells nA5 nc5 pA5 pc5 sA5 sc5)[j]? = some u → W.cell? ⟨b5, o5 + j, none⟩ = some u from by
            obtain ⟨d, rfl⟩ := hW
            intro j u hj
            exact OnlyD.cell (F := (· = ga)) (HREC5.out.2 j u hj) (fun e => by have e' : b5 = ga := e; omega) d))
           clear hrep5 hrec5 hcs5 hbP5
           refine wp_region_mix (.seg [0, 1, 2, 3, 4, 5, 6, 7, 8, 9] 10 (.leaf [11, 12])) (fun w' => ∃ d : Wd (Only (fun k => k = ga) v8), w' = d.w) (by kernel_rfl) (by kernel_rfl) (fun _ _ d _ _ h => by cases d <;> exact h) (ClsW.mk Only.drew) ?_
           unfold wpMix; simp only [pick, j1, j2, j3, j4]
           (repeat (show wpQuiet _ _ _ _ (_ :: _) _; first | (refine wpQuiet_load_at rfl rfl rfl HMR.out Tryz.underlying46 rfl (by kernel_rfl) ?_; go_simp) | go_big_quiet_step (fail))); refine qn ?_
           have HD := jh (H8.out.1.ext (jb _ _).drew)
           have C8 := applyH_any ga (hbS 2 2 ((i : Int) + 1) (tabK nm k) [frzR (xK 2 ((i : Int) + 1)) 1] La) (relR (xK 1 (((i : Int) + 1) + 1))) (.inr (.inr (.inr rfl))) nA5 pA5 sA5 nc5 pc5 sc5 _ _ v8.drew HD.out.sta (HD.out.ava ga (by simp)) (HF.out.fit (by omega)) (HREC5.out.1.ext (js (jb _ _).drew) (Nat.le_refl _)) (fun h => by have h' : v7.heap.size ≤ ga := h; omega) rel_fair HD.out.tabs (by have := (HD.out.ge ga (by simp)).1; have := (HD.out.ge gt (by simp)).1; omega) rel_put (by show (2 : Nat) ≤ _; omega) (by show (freshT (tabK nm k)).length ≤ _; rw [freshK HN.out.name (by omega)]; unfold tabK; split <;> simp)
           unfold StOut at C8
           rw [hb_release hp (by omega) hkv HN.out] at C8
           unfold ptrV at C8
           go_wp2_with fail
           refine C8.mono ?_
           clear C8 s0
           rintro e v9 ⟨rfl, hst, hO⟩
           have hO9 : Only (fun k => k = ga) v8 v9 := Only.tr Only.drew hO
           have H9 := jh (ja (HD.out.outA h2 hst hO) (H8.out.2.2.same (Same.of_only hO9 fun k hk e => by have e' : k = ga := e; subst e'; exact HI.out.2.2.2 k (by simp) hk) hO9.size))
           have hzz := hO9.size
           clear hst hO
           go_wp2_with fail
           (refine segw (D := Only (fun k => k = ga) v8) (hO9) ?_; unfold wpMix; simp only [pick, j1, j2, j3, j4]; (repeat (show wpQuiet _ _ _ _ (_ :: _) _; go_big_quiet_step (fail))); refine qn ?_)
           clear HMR HD H8 HREC5 hO9
           have hIa : Inv (hbS 2 1 ((((i + 1 : Nat) : Int)) + 1) [] [] La) (100 + 20 * (i + 1)) := by
            have h1 := apply_inv (r := (relR (xK 1 (((i : Int) + 1) + 1)))) HF.out (by omega)
            rw [hb_release hp (by omega) hkv HN.out] at h1
            exact h1.mono (by have : costR (relR (xK 1 (((i : Int) + 1) + 1))) = 0 := rfl; omega)
           have hIt : Inv (hbS 1 1 ((((i + 1 : Nat) : Int)) + 1) (tabK nm k) [] Lt) (100 + 20 * (i + 1)) := by
            have h1 := apply_inv (r := insR (cpK 2 1 ((i : Int) + 1) nm k)) HI.out.2.1 (by omega)
            rw [hb_install hp (by omega) hkv HN.out] at h1
            exact h1.mono (by have := ins_cost (a := 2) (t := 1) (e := (i : Int) + 1) (n := nm) hkv; omega)
           have HNX := jh (show HbI w w.heap.size (w.heap.size + 1) gt ga ct ca 1 2 nm k A (i + 1) v9 from
            ⟨_, _, _, _, _, H9.out.1.swap hp, hIt, hIa, H9.out.2, fun x hx hk => HI.out.2.2.2 x (by simp at hx ⊢; omega) hk⟩)
           clear H9 hIa hIt
           go_wp2_with fail
           go_round
           case rel => exact ⟨i + 1, by omega, by go_num, .inl ⟨rfl, _, _, _, _, HNX.out⟩⟩
           case measure => simp [intOf]; omega
         ·have hin : (i : Int) = n := by omega
          have s0 : wr.cell? ⟨w.heap.size, 1, none⟩ = some (.pointer (some ⟨ga, 0, none⟩)) := hR.arS.cell 1
          have sl := hR.arS.lt
          have C1 := stakeB_any ga (hbS 2 2 ((i : Int) + 1) (tabK nm k) [] La) allHashes Pa wr hR.sta (hIa.fit (by omega))
          rw [show takeT (hbS 2 2 ((i : Int) + 1) (tabK nm k) [] La).table allHashes = strK nm k from takeK nm k (inR_all nm)] at C1
          unfold GotStB ptrV allHashes at C1
          have HR := jh (ja hR.below hrow)
          clear hR hrow hIa hIt hQ
          go_wp2_with fail
          refine C1.mono ?_
          clear C1 s0 sl
          rintro e v1 ⟨⟨A9, c9, rfl, ⟨hc1, hc2⟩, hrow9⟩, hb1⟩
          have CS := sameStreams_eq A9 A c9 c _ _ v1 hrow9 (HR.out.2.ext hb1) (by omega) (fun s hs => by have := strK_each hkv s hs; omega)
          have H9 := jh (HR.out.1.tr hb1)
          clear hrow9 hb1
          go_wp2_with fail
          refine CS.mono ?_
          clear CS
          rintro e v2 ⟨rfl, hb2⟩
          have H10 := jh (H9.out.tr hb2)
          clear hb2
          go_wp2_with fail
          refine (CA.out v2 H10.out).mono ?_
          rintro e v3 ⟨rfl, hb3⟩
          have H11 := jh (H10.out.tr hb3)
          clear hb3
          go_wp2_with fail
          go_ret
          exact ⟨rfl, H11.out⟩
end Go.Proofs.YtcmjgghkmdbphaaGreatDoor
