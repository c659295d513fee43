/- PartOnce: the law's walk. -/
import Derived.Test.YtcmjgghkmdbphaaGreatDoorO23
set_option maxRecDepth 20000
set_option maxHeartbeats 25600000
namespace Go.Proofs.YtcmjgghkmdbphaaGreatDoor
open Go.RowKit
structure NxAt (w : World) (g gc b : Nat) (s : St) (c : Clk) (W : World) : Prop where
 st : StAt W (fun k => w.heap.size ≤ k ∧ k ≠ g ∧ k ≠ gc ∧ k ≠ b) g s
 ck : CkAt W gc c
 hg : w.heap.size ≤ g
 hgc : w.heap.size ≤ gc
 ne : g ≠ gc
 bne : b ≠ g ∧ b ≠ gc
 hb : w.heap.size ≤ b ∧ b < W.heap.size
 tabs : Tabs W
 below : Below w.heap.size w W
section
variable {w W W' : World} {g gc b : Nat} {s s' : St} {c c' : Clk}
theorem NwAt.nx (h : NwAt w g gc s c W) (o : Obj) : NxAt w g gc W.heap.size s c (W.alloc o) := by
 have h1 := h.st.lt
 have h2 := h.ck.lt
 have hb : Below W.heap.size W (W.alloc o) := (jb _ _).al o
 exact ⟨by obtain ⟨v, a, d⟩ := h.st; exact ⟨v, a.ext hb, (d.low.same (js hb)).mono fun k hk => ⟨hk.1.1, hk.1.2.1, hk.1.2.2, by have := hk.2; omega⟩⟩, Blk.ext h.ck hb, h.hg, h.hgc, h.ne, ⟨by omega, by omega⟩, ⟨h.below.size, by simp⟩, h.tabs.below hb, h.below.tr hb⟩
theorem NxAt.ext (h : NxAt w g gc b s c W) (hb : Below W.heap.size W W') : NxAt w g gc b s c W' :=
 ⟨by obtain ⟨v, a, d⟩ := h.st; exact ⟨v, a.ext hb, d.same (js hb)⟩, Blk.ext h.ck hb, h.hg, h.hgc, h.ne, h.bne, ⟨h.hb.1, Nat.lt_of_lt_of_le h.hb.2 hb.size⟩, h.tabs.below hb, h.below.tr hb⟩
theorem NxAt.clk (h : NxAt w g gc b s c W) (h2 : 2 ≤ w.heap.size) (hc : CkAt W' gc c') (hO : Only (· = gc) W W') : NxAt w g gc b s c' W' :=
 ⟨by obtain ⟨v, a, d⟩ := h.st; exact ⟨v, a.only hO h.ne, d.same (Same.of_only hO fun k hk e => hk.2.2.1 e)⟩, hc, h.hg, h.hgc, h.ne, h.bne, ⟨h.hb.1, Nat.lt_of_lt_of_le h.hb.2 hO.size⟩,
  h.tabs.only hO (by intro e; have e' : 0 = gc := e; have := h.hgc; omega) (by intro e; have e' : 1 = gc := e; have := h.hgc; omega), h.below.trans (hO.low (fun k e => by have e' : k = gc := e; have := h.hgc; omega) h.below.size)⟩
theorem NxAt.oth (h : NxAt w g gc b s c W) (h2 : 2 ≤ w.heap.size) (hO : Only (· = b) W W') : NxAt w g gc b s c W' :=
 ⟨by obtain ⟨v, a, d⟩ := h.st; exact ⟨v, a.only hO (fun e => h.bne.1 e.symm), d.same (Same.of_only hO fun k hk e => hk.2.2.2 e)⟩, Blk.only h.ck hO (fun e => h.bne.2 e.symm), h.hg, h.hgc, h.ne, h.bne, ⟨h.hb.1, Nat.lt_of_lt_of_le h.hb.2 hO.size⟩,
  h.tabs.only hO (by intro e; have e' : 0 = b := e; have := h.hb.1; omega) (by intro e; have e' : 1 = b := e; have := h.hb.1; omega), h.below.trans (hO.low (fun k e => by have e' : k = b := e; have := h.hb.1; omega) h.below.size)⟩
theorem NxAt.stt (h : NxAt w g gc b s c W) (h2 : 2 ≤ w.heap.size) (hs : StAt W' (fun k => (w.heap.size ≤ k ∧ k ≠ g ∧ k ≠ gc ∧ k ≠ b) ∨ W.heap.size ≤ k) g s') (hO : Only (· = g) W W') : NxAt w g gc b s' c W' :=
 ⟨by
  obtain ⟨v, a, d⟩ := hs
  have h1 := h.st.lt
  have h2 := h.ck.lt
  have h3 := h.below.size
  have h4 := h.hb.2
  exact ⟨v, a, d.mono fun k hk => by rcases hk with hk | hk; exact hk; exact ⟨by omega, by omega, by omega, by omega⟩⟩, Blk.only h.ck hO (fun e => h.ne e.symm), h.hg, h.hgc, h.ne, h.bne, ⟨h.hb.1, Nat.lt_of_lt_of_le h.hb.2 hO.size⟩,
  h.tabs.only hO (by intro e; have e' : 0 = g := e; have := h.hg; omega) (by intro e; have e' : 1 = g := e; have := h.hg; omega), h.below.trans (hO.low (fun k e => by have e' : k = g := e; have := h.hg; omega) h.below.size)⟩
end
theorem partOnce_law (n again : Int) (yes : Bool) (w : World) (hT : Tabs w) (h2 : 2 ≤ w.heap.size) :
 Calls Tryz.prog 9 #[.int .i64 n, .int .i64 again, .bool yes] w fun e w' => e = .returned (.bool true) ∧ Below w.heap.size w w' := by
 have CA := jh (fun W (hW : Below w.heap.size w W) => awake21_any W (hT.below hW) (by have := hW.size; omega))
 have HT := jh hT
 clear hT
 have hcase : n < 0 ∨ (decide (n < 0) = false ∧ 10 < n) ∨ (decide (n < 0) = false ∧ decide (10 < n) = false ∧ again < 0) ∨ (decide (n < 0) = false ∧ decide (10 < n) = false ∧ decide (again < 0) = false ∧ 10 < again) ∨
  ((decide (n < 0) = false ∧ decide (10 < n) = false ∧ decide (again < 0) = false ∧ decide (10 < again) = false) ∧ 0 ≤ n ∧ n ≤ 10 ∧ 0 ≤ again ∧ again ≤ 10) := by
  simp only [decide_eq_false_iff_not]; omega
 rcases hcase with h | ⟨h, h'⟩ | ⟨h, h', h''⟩ | ⟨h, h', h'', h3⟩ | ⟨⟨h, h', h'', h3⟩, n0, n1, w0, w1⟩
 iterate 4
  ·go_enter Tryz.func9, Tryz.ntmps9
   go_wp2_with fail
   refine (CA.out w (jb _ _)).mono ?_
   rintro e w1 ⟨rfl, hb1⟩
   go_wp2_with fail
   go_ret
   exact ⟨rfl, hb1⟩
 have C1 := newState_any 1 1 w (i64_small 1 (by omega)) (i64_small 1 (by omega))
 unfold GotState at C1
 rw [aw_new] at C1
 dsimp only at C1
 go_enter Tryz.func9, Tryz.ntmps9
 go_wp2_with fail
 refine C1.mono ?_
 clear C1
 rintro e wa ⟨⟨g, rfl, hg, hst, _⟩, hb1⟩
 have hz1 := hb1.size
 have HS := jh (ja hst hb1)
 have C2 := clkNew_any 1 1 wa ⟨⟨by decide, by decide⟩, by decide, by decide⟩
 have hgl := hst.lt
 clear hst hb1
 unfold ptrV
 go_wp2_with fail
 refine C2.mono ?_
 clear C2
 rintro e wb ⟨rfl, hc2, hz2, hb2⟩
 have HN := jh (show NwAt w g wa.heap.size awS ck1 wb from ⟨by
  obtain ⟨v, a, b⟩ := HS.out.1
  exact ⟨v, a.ext hb2, (b.low.same (js hb2)).mono fun k hk => ⟨hk.1.1, hk.1.2, by have := hk.2; omega⟩⟩, hc2, hg, hz1, by omega, HT.out.below (HS.out.2.tr hb2), HS.out.2.tr hb2⟩)
 have hz2' : wa.heap.size < wb.heap.size := by omega
 clear hc2 hb2 HS hz2
 go_upto_region 8 with fail
 have hm3 : Below wb.heap.size wb (((wb.alloc (.cells #[.string ⟨#[120]⟩] 9)).alloc (.cells #[.string ⟨#[97]⟩, .int .i64 (-1), .slice (some ⟨wb.heap.size, 0, none⟩) 1 1] 69)).alloc (.cells #[.int .i64 2, .int .i64 1, .int .i64 1, .string ⟨#[]⟩, .slice (some ⟨wb.heap.size + 1, 0, none⟩) 1 1, .int .i64 0, .int .i64 0, .int .i64 0] 109)) := by repeat (with_reducible first | assumption | exact jb _ _ | refine Below.al ?_ _ | refine Below.drew ?_ | apply Below.st1)
 have HM := jh (show MsAt wb.heap.size (((wb.alloc (.cells #[.string ⟨#[120]⟩] 9)).alloc (.cells #[.string ⟨#[97]⟩, .int .i64 (-1), .slice (some ⟨wb.heap.size, 0, none⟩) 1 1] 69)).alloc (.cells #[.int .i64 2, .int .i64 1, .int .i64 1, .string ⟨#[]⟩, .slice (some ⟨wb.heap.size + 1, 0, none⟩) 1 1, .int .i64 0, .int .i64 0, .int .i64 0] 109)) from
  ⟨((Blk.new wb 9 [.string ⟨#[120]⟩]).alloc _).alloc _, (Blk.new1 wb (.cells #[.string ⟨#[120]⟩] 9) 69 [.string ⟨#[97]⟩, .int .i64 (-1), .slice (some ⟨wb.heap.size, 0, none⟩) 1 1]).alloc _, by
    have h := Blk.new1 (wb.alloc (.cells #[.string ⟨#[120]⟩] 9)) (.cells #[.string ⟨#[97]⟩, .int .i64 (-1), .slice (some ⟨wb.heap.size, 0, none⟩) 1 1] 69) 109 [.int .i64 2, .int .i64 1, .int .i64 1, .string ⟨#[]⟩, .slice (some ⟨wb.heap.size + 1, 0, none⟩) 1 1, .int .i64 0, .int .i64 0, .int .i64 0]
    rw [World.size_alloc] at h
    exact h⟩)
 have HN4 := jh (HN.out.ext hm3)
 have hgx : g < wb.heap.size := by omega
 have hcx : wa.heap.size < wb.heap.size := by omega
 clear hm3 HN
 generalize ((wb.alloc (.cells #[.string ⟨#[120]⟩] 9)).alloc (.cells #[.string ⟨#[97]⟩, .int .i64 (-1), .slice (some ⟨wb.heap.size, 0, none⟩) 1 1] 69)).alloc (.cells #[.int .i64 2, .int .i64 1, .int .i64 1, .string ⟨#[]⟩, .slice (some ⟨wb.heap.size + 1, 0, none⟩) 1 1, .int .i64 0, .int .i64 0, .int .i64 0] 109) = wd at *
 have m0 := HM.out.m.cell
 have hlm := HM.out.m.lt
 have hld : wb.heap.size + 1 + 1 < wd.heap.size := hlm
 have CP := partPrepare_any g wa.heap.size awS ck1 tx1 (frB ⟨#[97]⟩) zeroStamp (some ⟨wb.heap.size + 1, 0, none⟩) 1 _ _ wd HN4.out.st aw_fitS (by decide) (fun p hp => by cases hp) HN4.out.ck ck1_ok HN4.out.ne (fun h => h.2.2 rfl) (fun h => by rcases h with h | h <;> omega) (by omega) (put_row (by show (1 : Nat) ≤ _; omega) HM.out.x HM.out.p) ⟨Nat.le_refl _, by decide⟩ ⟨by decide, by show (0 : Nat) ≤ _; omega, fun p hp => by rcases List.mem_singleton.1 hp with rfl; decide⟩ tx1_fit HN4.out.tabs
 rw [once_prep1] at CP
 unfold PlanOut ptrV prepV planV at CP
 (try unfold noP at CP)
 (try unfold zeroStamp at CP)
 (try unfold tx1 at CP)
 dsimp only [List.length_cons, List.length_nil] at CP
 go_wp2_with fail
 refine CP.mono ?_
 clear CP m0 hlm
 rintro e wp ⟨⟨rA, rc, fA, fc, rfl, hr1, hrow, _, _⟩, hck, hO⟩
 have hbz : Below wp.heap.size wp (wp.alloc (.cells #[.slice rA 1 rc, .int .i64 2, .int .i64 1, .int .i64 1, .int .i64 0, .int .i64 1, .int .i64 1, .int .i64 1, .slice fA 1 fc, .bool false, .bool false] 113)) := by repeat (with_reducible first | assumption | exact jb _ _ | refine Below.al ?_ _ | refine Below.drew ?_ | apply Below.st1)
 have hzp := hO.size
 have HNz := jh ((HN4.out.clk h2 hck hO).ext hbz)
 have HMz := jh ((HM.out.only hO (fun k h h' e => by have e' : k = wa.heap.size := e; omega)).ext hbz)
 have HRz := jh (ja hr1 (hrow.ext hbz))
 have HZ := jh (Blk.new wp 113 [.slice rA 1 rc, .int .i64 2, .int .i64 1, .int .i64 1, .int .i64 0, .int .i64 1, .int .i64 1, .int .i64 1, .slice fA 1 fc, .bool false, .bool false])
 have hrc : 1 ≤ rc := hr1.1
 have hrc2 : rc ≤ 9223372036854775807 := hr1.2
 clear hck hO hr1 hrow hbz HN4 HM
 go_upto_region 9 with fail
 generalize wp.alloc (.cells #[.slice rA 1 rc, .int .i64 2, .int .i64 1, .int .i64 1, .int .i64 0, .int .i64 1, .int .i64 1, .int .i64 1, .slice fA 1 fc, .bool false, .bool false] 113) = wz at *
 have p0 := HZ.out.cell 0
 have p4 := HZ.out.cell 4
 simp only [List.getElem?_cons_zero, List.getElem?_cons_succ] at p0 p4
 have hlz := HZ.out.lt
 obtain ⟨bb, o, nA, nc, pA, pc, sA, sc, rfl, hbw, hrec, hcs⟩ := recs_at HRz.out.2 (k := 0) rfl
 rw [Nat.zero_mul, Nat.add_zero] at hcs
 have HCS := jh hcs
 have CA1 := applyK_4 g awS (prepR tx1 (frB ⟨#[97]⟩) ⟨1, 1, 1⟩) nA pA sA nc pc sc _ _ wz HNz.out.st (fun h => h.2.1 rfl) aw_fitS hrec (fun h => by rcases h with (h | h) | h <;> omega) prep_fair HNz.out.tabs (by omega) rfl
 rw [once_apply1] at CA1
 unfold StOut ptrV at CA1
 dsimp only at CA1
 clear hrec hcs
 go_wp2_with (first
  | ((with_reducible refine wpList_load_atG rfl rfl ?_ HCS.out Tryz.underlying46 rfl (by kernel_rfl) ?_); · rfl)
  | fail)
 refine CA1.mono ?_
 clear CA1 p0 p4
 rintro e wy ⟨rfl, hst, hO⟩
 have HL := jh (show NwAt w g wa.heap.size once1 onceC wy ∧ MsAt wb.heap.size wy ∧ Blk wy wp.heap.size 113 [.slice (some ⟨bb, o, none⟩) 1 rc, .int .i64 2, .int .i64 1, .int .i64 1, .int .i64 0, .int .i64 1, .int .i64 1, .int .i64 1, .slice fA 1 fc, .bool false, .bool false] from
  ⟨HNz.out.stt h2 hst hO, HMz.out.only hO (fun k h h' e => by have e' : k = g := e; omega), HZ.out.only hO (fun e => by have e' : wp.heap.size = g := e; omega)⟩)
 have hzy := hO.size
 clear hst hO HNz HMz HRz HCS HZ hbw
 go_wp2_with fail
 go_loopw [13] (fun iv wr => ∃ k : Nat, (k : Int) ≤ n ∧ iv = .int .i64 k ∧ NwAt w g wa.heap.size once1 onceC wr ∧ MsAt wb.heap.size wr ∧ Blk wr wp.heap.size 113 [.slice (some ⟨bb, o, none⟩) 1 rc, .int .i64 2, .int .i64 1, .int .i64 1, .int .i64 0, .int .i64 1, .int .i64 1, .int .i64 1, .slice fA 1 fc, .bool false, .bool false]) (fun iv _ => n.toNat - (intOf iv).toNat)
 case atStart => exact ⟨0, n0, rfl, HL.out⟩
 case round =>
  obtain ⟨k, hk, rfl, hN, hM, hZ⟩ := hrel
  have m0 := hM.m.cell
  have hlm := hM.m.lt
  have z5 := hZ.cell 5
  have z6 := hZ.cell 6
  have z7 := hZ.cell 7
  simp only [List.getElem?_cons_zero, List.getElem?_cons_succ] at z5 z6 z7
  have hlz := hZ.lt
  have HX := jh (ja hN (ja hM hZ))
  clear hN hM hZ
  by_cases hlt : (k : Int) < n
  ·have CP := partPrepare_any g wa.heap.size once1 onceC tx1 (frB ⟨#[97]⟩) zeroStamp (some ⟨wb.heap.size + 1, 0, none⟩) 1 _ _ wr HX.out.1.st once_fit1 (by decide) (fun p hp => by rcases List.mem_singleton.1 hp with rfl; rfl) HX.out.1.ck once_okC HX.out.1.ne (fun h => h.2.2 rfl) (fun h => by rcases h with h | h <;> omega) (by omega) (put_row (by show (1 : Nat) ≤ _; omega) HX.out.2.1.x HX.out.2.1.p) ⟨Nat.le_refl _, by decide⟩ ⟨by decide, by show (0 : Nat) ≤ _; omega, fun p hp => by rcases List.mem_singleton.1 hp with rfl; decide⟩ tx1_fit HX.out.1.tabs
   rw [once_prep2] at CP
   unfold PlanOut ptrV prepV planV at CP
   (try unfold noP at CP)
   (try unfold zeroStamp at CP)
   (try unfold tx1 at CP)
   dsimp only [List.length_cons, List.length_nil] at CP
   go_wp2_with fail
   refine CP.mono ?_
   clear CP m0 hlm z5 z6 z7
   rintro e wq ⟨⟨rA2, rc2, fA2, fc2, rfl, _, _, _, _⟩, hck, hO⟩
   have hbz : Below wq.heap.size wq (wq.alloc (.cells #[.slice rA2 0 rc2, .int .i64 2, .int .i64 1, .int .i64 1, .int .i64 0, .int .i64 1, .int .i64 1, .int .i64 1, .slice fA2 1 fc2, .bool false, .bool false] 113)) := by repeat (with_reducible first | assumption | exact jb _ _ | refine Below.al ?_ _ | refine Below.drew ?_ | apply Below.st1)
   have hzq := hO.size
   have HY := jh (ja ((HX.out.1.clk h2 hck hO).ext hbz) (ja ((HX.out.2.1.only hO (fun k h h' e => by have e' : k = wa.heap.size := e; omega)).ext hbz) (((HX.out.2.2.only hO (fun e => by have e' : wp.heap.size = wa.heap.size := e; omega)).ext hbz))))
   have hQ := Blk.new wq 113 [.slice rA2 0 rc2, .int .i64 2, .int .i64 1, .int .i64 1, .int .i64 0, .int .i64 1, .int .i64 1, .int .i64 1, .slice fA2 1 fc2, .bool false, .bool false]
   clear hck hO hbz HX
   go_upto_region 15 with fail
   generalize wq.alloc (.cells #[.slice rA2 0 rc2, .int .i64 2, .int .i64 1, .int .i64 1, .int .i64 0, .int .i64 1, .int .i64 1, .int .i64 1, .slice fA2 1 fc2, .bool false, .bool false] 113) = wv at *
   have q0 := hQ.cell
   have hlq := hQ.lt
   have z0 := HY.out.2.2.cell
   have hlz2 := HY.out.2.2.lt
   clear hQ
   go_wp2_with fail
   go_round
   case rel => exact ⟨k + 1, by omega, by go_num, HY.out⟩
   case measure => simp [intOf]; omega
  ·have hlt' : decide ((k : Int) < n) = false := jd hlt
   clear hlt z5 z6 z7
   go_upto_region 18 with fail
   have hba : Below wr.heap.size wr (wr.alloc (.cells #[.int .i64 50, .int .i64 0, .int .i64 2] 40)) := by repeat (with_reducible first | assumption | exact jb _ _ | refine Below.al ?_ _ | refine Below.drew ?_ | apply Below.st1)
   have HA := jh (ja (HX.out.1.ext hba) (ja (HX.out.2.1.ext hba) (ja (HX.out.2.2.ext hba) (Blk.new wr 40 [.int .i64 50, .int .i64 0, .int .i64 2]))))
   have hlr : wb.heap.size + 1 + 1 < wr.heap.size := hlm
   have hlzr : wp.heap.size < wr.heap.size := hlz
   clear hba HX m0 hlm hlz
   generalize wr.alloc (.cells #[.int .i64 50, .int .i64 0, .int .i64 2] 40) = ws at *
   have m0 := HA.out.2.1.m.cell
   have hlm := HA.out.2.1.m.lt
   have s0 := HA.out.2.2.2.cell
   have hls := HA.out.2.2.2.lt
   have CD := partDecide_any g wa.heap.size once1 onceC tx1 yes at50 _ ws HA.out.1.st once_fit1 (by decide) (fun p hp => by rcases List.mem_singleton.1 hp with rfl; rfl) HA.out.1.ck once_okC HA.out.1.ne (fun h => h.2.2 rfl) tx1_fit ⟨i64_small 50 (by omega), i64_small 0 (by omega), i64_small 2 (by omega)⟩
   rw [once_dec] at CD
   unfold DecOut ptrV decV planV at CD
   (try unfold zeroTx at CD)
   (try unfold zeroStamp at CD)
   (try unfold tx1 at CD)
   (try unfold at50 at CD)
   dsimp only [List.length_cons, List.length_nil] at CD
   go_wp2_with fail
   refine CD.mono ?_
   clear CD m0 hlm s0
   rintro e wt ⟨⟨rB, rcB, rfl, hr1, hrow⟩, hck, hO⟩
   have hbz : Below wt.heap.size wt (wt.alloc (.cells #[.slice rB 1 rcB, .int .i64 0, .int .i64 0, .int .i64 0, .int .i64 0, .int .i64 0, .int .i64 0, .int .i64 0, .slice none 0 0, .bool true, .bool yes] 113)) := by repeat (with_reducible first | assumption | exact jb _ _ | refine Below.al ?_ _ | refine Below.drew ?_ | apply Below.st1)
   have hzt := hO.size
   have HB := jh (ja ((HA.out.1.clk h2 hck hO).nx (.cells #[.slice rB 1 rcB, .int .i64 0, .int .i64 0, .int .i64 0, .int .i64 0, .int .i64 0, .int .i64 0, .int .i64 0, .slice none 0 0, .bool true, .bool yes] 113)) (ja ((HA.out.2.1.only hO (fun k h h' e => by have e' : k = wa.heap.size := e; omega)).ext hbz) (ja ((HA.out.2.2.1.only hO (fun e => by have e' : wp.heap.size = wa.heap.size := e; omega)).ext hbz) ((HA.out.2.2.2.only hO (fun e => by have e' : wr.heap.size = wa.heap.size := e; omega)).ext hbz))))
   have HD := jh (ja hr1 (ja (hrow.ext hbz) (Blk.new wt 113 [.slice rB 1 rcB, .int .i64 0, .int .i64 0, .int .i64 0, .int .i64 0, .int .i64 0, .int .i64 0, .int .i64 0, .slice none 0 0, .bool true, .bool yes])))
   have hrb : 1 ≤ rcB := hr1.1
   have hrb2 : rcB ≤ 9223372036854775807 := hr1.2
   clear hck hO hr1 hrow hbz HA
   go_upto_region 19 with fail
   generalize wt.alloc (.cells #[.slice rB 1 rcB, .int .i64 0, .int .i64 0, .int .i64 0, .int .i64 0, .int .i64 0, .int .i64 0, .int .i64 0, .slice none 0 0, .bool true, .bool yes] 113) = wu at *
   obtain ⟨bb2, o2, nA2, nc2, pA2, pc2, sA2, sc2, rfl, hbw2, hrec2, hcs2⟩ := recs_at HD.out.2.1 (k := 0) rfl
   rw [Nat.zero_mul, Nat.add_zero] at hcs2
   have HCS2 := jh hcs2
   have CA2 := applyK_5 g once1 (onceR yes) nA2 pA2 sA2 nc2 pc2 sc2 _ _ wu HB.out.1.st (fun h => h.2.1 rfl) once_fit1 hrec2 (fun h => by have h' : ws.heap.size ≤ g := h; omega) (once_fair yes) HB.out.1.tabs (by omega) (by cases yes <;> rfl)
   rw [show applyS once1 (onceR yes) = (once2 yes, 0) from Prod.ext rfl (once_code yes)] at CA2
   unfold StOut ptrV at CA2
   dsimp only at CA2
   have d0 := HD.out.2.2.cell 0
   have d9 := HD.out.2.2.cell 9
   have hld2 := HD.out.2.2.lt
   simp only [List.getElem?_cons_zero, List.getElem?_cons_succ] at d0 d9
   clear hrec2 hcs2
   go_wp2_with (first
    | ((with_reducible refine wpList_load_atG rfl rfl ?_ HCS2.out Tryz.underlying46 rfl (by kernel_rfl) ?_); · rfl)
    | fail)
   refine CA2.mono ?_
   clear CA2 d0 d9 hld2
   rintro e wv ⟨rfl, hst, hO⟩
   have HE := jh (ja (HB.out.1.stt h2 hst hO) (ja (HB.out.2.1.only hO (fun k h h' e => by have e' : k = g := e; omega)) (ja (HB.out.2.2.1.only hO (fun e => by have e' : wp.heap.size = g := e; omega)) (ja (HB.out.2.2.2.only hO (fun e => by have e' : wr.heap.size = g := e; omega)) (HD.out.2.2.only hO (fun e => by have e' : wt.heap.size = g := e; omega))))))
   have hzv := hO.size
   clear hst hO HB HD HCS2 hbw2
   have z5 := HE.out.2.2.1.cell 5
   have z6 := HE.out.2.2.1.cell 6
   have z7 := HE.out.2.2.1.cell 7
   have s0 := HE.out.2.2.2.1.cell 0
   have s1 := HE.out.2.2.2.1.cell 1
   have s2 := HE.out.2.2.2.1.cell 2
   simp only [List.getElem?_cons_zero, List.getElem?_cons_succ] at z5 z6 z7 s0 s1 s2
   have hlz3 := HE.out.2.2.1.lt
   have hls3 := HE.out.2.2.2.1.lt
   have CL := rLess_any ⟨1, 1, 1⟩ at50 wv
   rw [show lessS ⟨1, 1, 1⟩ at50 = true from rfl] at CL
   unfold at50 at CL
   dsimp only at CL
   go_wp2_with fail
   refine CL.mono ?_
   clear CL z5 z6 z7 s0 s1 s2 hlz3 hls3
   rintro e wx ⟨rfl, hbx⟩
   generalize hwq : wr.heap.size = sb at *
   have HSB := jh hwq
   clear hwq
   have HL2 := jh (show NxAt w g wa.heap.size wt.heap.size (once2 yes) (onceD yes) wx ∧ MsAt wb.heap.size wx ∧ Blk wx sb 40 [.int .i64 50, .int .i64 0, .int .i64 2] ∧ ∃ cs, cs.length = 11 ∧ Blk wx wt.heap.size 113 cs from
    ⟨HE.out.1.ext hbx, HE.out.2.1.ext hbx, HE.out.2.2.2.1.ext hbx, _, rfl, HE.out.2.2.2.2.ext hbx⟩)
   clear hbx HE
   have hwt : sb < wt.heap.size := by omega
   go_wp2_with fail
   go_loopw [17] (fun iv wq => ∃ k : Nat, (k : Int) ≤ again ∧ iv = .int .i64 k ∧ NxAt w g wa.heap.size wt.heap.size (once2 yes) (onceD yes) wq ∧ MsAt wb.heap.size wq ∧ Blk wq sb 40 [.int .i64 50, .int .i64 0, .int .i64 2] ∧ ∃ cs, cs.length = 11 ∧ Blk wq wt.heap.size 113 cs) (fun iv _ => again.toNat - (intOf iv).toNat)
   case atStart => exact ⟨0, w0, rfl, HL2.out⟩
   case round =>
    obtain ⟨k, hk, rfl, hN, hM, hA, cs, hcl, hP⟩ := hrel
    generalize hwr2 : wr = wr2 at *
    clear hwr2
    have m0 := hM.m.cell
    have hlm := hM.m.lt
    have hlq2 : wb.heap.size + 1 + 1 < wr2.heap.size := hlm
    have hlw2 : wt.heap.size < wr2.heap.size := hP.lt
    have HQ := jh (ja hN (ja hM (ja hA (ja hcl hP))))
    clear hN hM hA hcl hP
    by_cases hlt : (k : Int) < again
    ·have CP := partPrepare_any g wa.heap.size (once2 yes) (onceD yes) tx1 (frB ⟨#[97]⟩) zeroStamp (some ⟨wb.heap.size + 1, 0, none⟩) 1 _ _ wr2 HQ.out.1.st (once_fit2 yes) (by rw [once_held]; decide) (fun p hp => by rw [once_held] at hp; cases hp) HQ.out.1.ck (once_okD yes) HQ.out.1.ne (fun h => h.2.2.1 rfl) (fun h => by rcases h with h | h <;> omega) (by omega) (put_row (by show (1 : Nat) ≤ _; omega) HQ.out.2.1.x HQ.out.2.1.p) ⟨Nat.le_refl _, by decide⟩ ⟨by decide, by show (0 : Nat) ≤ _; omega, fun p hp => by rcases List.mem_singleton.1 hp with rfl; decide⟩ tx1_fit HQ.out.1.tabs
     rw [once_prep3] at CP
     unfold PlanOut ptrV prepV planV at CP
     (try unfold noP at CP)
     (try unfold zeroStamp at CP)
     (try unfold tx1 at CP)
     dsimp only [List.length_cons, List.length_nil] at CP
     go_wp2_with fail
     refine CP.mono ?_
     clear CP m0 hlm
     rintro e v1 ⟨⟨rA2, rc2, fA2, fc2, rfl, _, _, _, _⟩, hck, hO⟩
     have hbz : Below v1.heap.size v1 (v1.alloc (.cells #[.slice rA2 0 rc2, .int .i64 2, .int .i64 1, .int .i64 1, .int .i64 11, .int .i64 0, .int .i64 0, .int .i64 0, .slice fA2 0 fc2, .bool false, .bool false] 113)) := by repeat (with_reducible first | assumption | exact jb _ _ | refine Below.al ?_ _ | refine Below.drew ?_ | apply Below.st1)
     have hzv1 := hO.size
     have HR := jh (ja ((HQ.out.1.clk h2 hck hO).ext hbz) (ja ((HQ.out.2.1.only hO (fun k h h' e => by have e' : k = wa.heap.size := e; omega)).ext hbz) (ja ((HQ.out.2.2.1.only hO (fun e => by have e' : sb = wa.heap.size := e; omega)).ext hbz) ((HQ.out.2.2.2.2.only hO (fun e => by have e' : wt.heap.size = wa.heap.size := e; omega)).ext hbz))))
     have HCL := jh HQ.out.2.2.2.1
     have hQ := jh (Blk.new v1 113 [.slice rA2 0 rc2, .int .i64 2, .int .i64 1, .int .i64 1, .int .i64 11, .int .i64 0, .int .i64 0, .int .i64 0, .slice fA2 0 fc2, .bool false, .bool false])
     clear hck hO hbz HQ
     go_upto_region 25 with fail
     generalize v1.alloc (.cells #[.slice rA2 0 rc2, .int .i64 2, .int .i64 1, .int .i64 1, .int .i64 11, .int .i64 0, .int .i64 0, .int .i64 0, .slice fA2 0 fc2, .bool false, .bool false] 113) = v2 at *
     have m0 := HR.out.2.1.m.cell
     have hlm := HR.out.2.1.m.lt
     have s0 := HR.out.2.2.1.cell
     have hls2 := HR.out.2.2.1.lt
     have CD := partDecide_any g wa.heap.size (once2 yes) (onceD yes) tx1 yes at50 _ v2 HR.out.1.st (once_fit2 yes) (by rw [once_held]; decide) (fun p hp => by rw [once_held] at hp; cases hp) HR.out.1.ck (once_okD yes) HR.out.1.ne (fun h => h.2.2.1 rfl) tx1_fit ⟨i64_small 50 (by omega), i64_small 0 (by omega), i64_small 2 (by omega)⟩
     rw [once_dec2] at CD
     unfold DecOut ptrV decV planV at CD
     (try unfold zeroTx at CD)
     (try unfold zeroStamp at CD)
     (try unfold tx1 at CD)
     (try unfold at50 at CD)
     dsimp only [List.length_cons, List.length_nil] at CD
     go_wp2_with fail
     refine CD.mono ?_
     clear CD m0 hlm s0 hls2
     rintro e v3 ⟨⟨rB2, rcB2, rfl, _, _⟩, hck, hO⟩
     have HS := jh (ja (HR.out.1.clk h2 hck hO) (ja (HR.out.2.1.only hO (fun k h h' e => by have e' : k = wa.heap.size := e; omega)) (ja (HR.out.2.2.1.only hO (fun e => by have e' : sb = wa.heap.size := e; omega)) (ja (HR.out.2.2.2.only hO (fun e => by have e' : wt.heap.size = wa.heap.size := e; omega)) (hQ.out.only hO (fun e => by have e' : v1.heap.size = wa.heap.size := e; omega))))))
     have hzv3 := hO.size
     clear hck hO HR hQ
     go_upto_region 26 with (first
      | (refine wpList_store_blk (cs := [.slice rB2 0 rcB2, .int .i64 0, .int .i64 0, .int .i64 0, .int .i64 0, .int .i64 0, .int .i64 0, .int .i64 0, .slice none 0 0, .bool true, .bool yes]) rfl rfl rfl rfl rfl HS.out.2.2.2.1 (by kernel_rfl) HCL.out (by simp [Value.oneCell']) ?_; intro v4 hB4 hO4 hz4)
      | fail)
     have HT := jh (ja (HS.out.1.oth h2 hO4) (ja (HS.out.2.1.only hO4 (fun k h h' e => by have e' : k = wt.heap.size := e; omega)) (ja (HS.out.2.2.1.only hO4 (fun e => by have e' : sb = wt.heap.size := e; omega)) (ja (show Blk v4 wt.heap.size 113 [.slice rB2 0 rcB2, .int .i64 0, .int .i64 0, .int .i64 0, .int .i64 0, .int .i64 0, .int .i64 0, .int .i64 0, .slice none 0 0, .bool true, .bool yes] from hB4) (HS.out.2.2.2.2.only hO4 (fun e => by have e' : v1.heap.size = wt.heap.size := e; omega))))))
     have q0 := HT.out.2.2.2.2.cell
     have hlq := HT.out.2.2.2.2.lt
     have t0 := HT.out.2.2.2.1.cell
     have hlt2 := HT.out.2.2.2.1.lt
     clear hB4 hO4 HS
     go_wp2_with fail
     go_round
     case rel => exact ⟨k + 1, by omega, by go_num, HT.out.1, HT.out.2.1, HT.out.2.2.1, _, rfl, HT.out.2.2.2.1⟩
     case measure => simp [intOf]; omega
    ·have hlt' : decide ((k : Int) < again) = false := jd hlt
     have CV := sversion_any g (once2 yes) ⟨#[97]⟩ _ wr2 HQ.out.1.st (by rw [once_self]; decide)
     rw [once_vers] at CV
     unfold ptrV at CV
     have CH := sheld_any g (once2 yes) _ wr2 HQ.out.1.st (by rw [once_self]; decide) (fun x hx => by rw [once_held] at hx; cases hx) (by rw [once_held]; decide)
     unfold GotHelds ptrV at CH
     rw [once_held] at CH
     have CW := CA.out
     cases yes
     all_goals
      (try simp only [if_true, Bool.false_eq_true, if_false] at CV)
      go_wp2_with fail
      refine CV.mono ?_
      rintro e w' ⟨rfl, rfl⟩
      go_wp2_with fail
      refine CH.mono ?_
      rintro e v5 ⟨⟨vh, hs, rfl, hp, ho⟩, hb5⟩
      obtain ⟨Ah, ch, rfl, _⟩ := ho.form
      have hl0 : hs.length = 0 := by have := hp.length_eq; simpa using this
      rw [hl0]
      clear ho hp hl0
      go_wp2_with fail
      refine (CW v5 (HQ.out.1.below.tr hb5)).mono ?_
      rintro e v6 ⟨rfl, hb6⟩
      go_wp2_with fail
      go_ret
      exact ⟨rfl, (HQ.out.1.below.tr hb5).tr hb6⟩
end Go.Proofs.YtcmjgghkmdbphaaGreatDoor
