/- PartStamps: the law's walk. -/
import Derived.Test.YtcmjgghkmdbphaaGreatDoorT22
import Derived.Test.YtcmjgghkmdbphaaGreatDoorT05
import Derived.Test.YtcmjgghkmdbphaaGreatDoorT19
set_option maxRecDepth 20000
set_option maxHeartbeats 25600000
namespace Go.Proofs.YtcmjgghkmdbphaaGreatDoor
open Go.RowKit
theorem partStamps_law (l : List PStep) (A : Option Addr) (cc : Nat) (w : World) (hr : PStepR.Row w (fun k => k < w.heap.size) A l) (hc : l.length ≤ cc ∧ cc ≤ 9223372036854775807) (hT : Tabs w) (h2 : 2 ≤ w.heap.size) :
 Calls Tryz.prog 10 #[.slice A l.length cc] w fun e w' => e = .returned (.bool true) ∧ Below w.heap.size w w' := by
 have CA := jh (fun W (hW : Below w.heap.size w W) => awake21_any W (hT.below hW) (by have := hW.size; omega))
 have HR := jh (ja hr hT)
 have C1 := small21_any l A cc _ w hr hc
 have hl63 : (l.length : Int) ≤ 9223372036854775807 := by omega
 clear hr hT hc
 go_enter Tryz.func10, Tryz.ntmps10
 go_wp2_with fail
 refine C1.mono ?_
 clear C1
 rintro e w0 ⟨⟨sb, rfl, hsb⟩, hb0⟩
 have H0 := jh hb0
 have hz0 := hb0.size
 clear hb0
 cases sb
 ·clear hsb
  go_wp2_with fail
  refine (CA.out w0 H0.out).mono ?_
  rintro e w1 ⟨rfl, hb1⟩
  have HB1 := jh (H0.out.tr hb1)
  clear hb1
  go_wp2_with fail
  go_ret
  exact ⟨rfl, HB1.out⟩
 have HSZ := jh (hsb rfl)
 clear hsb
 have C2 := fresh21_any w0 frS fr_new
 unfold GotFresh at C2
 go_wp2_with fail
 refine C2.mono ?_
 clear C2
 rintro e w1 ⟨⟨wb, g, gc, rfl, hfr⟩, hb1⟩
 have HQ0 := jh (QI.start (w := w) hz0 (HR.out.2.below (H0.out.tr hb1)) (H0.out.tr hb1) hfr)
 clear hfr hb1
 go_wp2_with fail
 go_loopw [5] (fun iv wr => ∃ (k : Nat) (P : Nat → Prop) (s : St) (c : Clk) (N : Nat), k ≤ l.length ∧ iv = .int .i64 k ∧ (N : Int) ≤ sizePs (l.take k) ∧ QI w wb g gc P s c N wr) (fun iv _ => l.length - (intOf iv).toNat)
 case atStart => exact ⟨0, _, _, _, 0, Nat.zero_le _, rfl, by simp [sizePs], HQ0.out⟩
 case round =>
  clear HQ0
  obtain ⟨k, P, s, c, N, hk, rfl, hN, hQ⟩ := hrel
  by_cases hlt : k < l.length
  ·have hlt' : (k : Int) < l.length := by omega
   have hlk := jg hlt
   have hts := sizePs_take hlt
   have hsz1 := (sizePs_le l (k + 1)).1
   have hsz0 := (sizePs_le l k).2
   have hsz2 := HSZ.out.2
   obtain ⟨bb, o, B, bc, rfl, hbP, hbw, hst, hcs⟩ := psteps_at (HR.out.1.ext hQ.below) hlk
   generalize l[k] = x at *
   have hbb : bb < w.heap.size := hbP
   have hbat := sizeB_sum x.batch
   have hNb : N ≤ 15000 ∧ sizeB x.batch ≤ 15000 ∧ 0 ≤ sizeB x.batch := by omega
   have hn1 : (N : Int) + sizeB x.batch ≤ sizePs (l.take (k + 1)) := by omega
   have HBT0 := jh (ja hbat hst)
   have hnode := hQ.node
   have hge := hQ.ge
   have hnes := hQ.ne
   have c1 := hQ.c1
   have hwl := lt_of_cell c1
   have hgl := hQ.st.lt
   have hcl : gc < wr.heap.size := Blk.lt hQ.ck
   have C3 := clkNow_any gc c wr hQ.ck (by rw [hnode]; rfl)
   unfold Stamp.cells at C3
   have HQw := jh (ja hQ hcs)
   have HNODE := jh hnode
   clear hQ hcs hst hbat hbP hlk hts hsz1 hsz0 hsz2 hN hnode
   go_wp2_with fail
   refine C3.mono ?_
   clear C3
   rintro e w2 ⟨rfl, hb2⟩
   have hbS : Below w2.heap.size w2 (w2.alloc (.cells #[.int .i64 c.last.wall, .int .i64 c.last.logic, .int .i64 c.last.node] 40)) := by repeat (with_reducible first | assumption | exact jb _ _ | refine Below.al ?_ _ | refine Below.drew ?_ | apply Below.st1)
   have hb12 := hb2.tr hbS
   have hz12 := hb2.size
   have H2 := jh (ja (HQw.out.1.ext hb12) (ja (Blk.new w2 40 [.int .i64 c.last.wall, .int .i64 c.last.logic, .int .i64 c.last.node]) (fun j u hj => cell_only (F := fun _ => False) (HQw.out.2 j u hj) (jo hb12) (fun h => h))))
   have HPT := jh (HBT0.out.2.puts.ext hb12)
   clear hb2 hbS hb12
   go_upto_region 10 with fail
   generalize (w2.alloc (.cells #[.int .i64 c.last.wall, .int .i64 c.last.logic, .int .i64 c.last.node] 40)) = w3 at *
   have hsl := H2.out.2.1.lt
   have hsbs : w.heap.size ≤ w2.heap.size ∧ wb ≠ w2.heap.size ∧ g ≠ w2.heap.size ∧ gc ≠ w2.heap.size := by omega
   generalize w2.heap.size = sb at *
   have y0 : w3.cell? ⟨bb, o + k * 11, none⟩ = some (.int .i64 x.kind) := H2.out.2.2 0 _ rfl
   clear c1 HQw hwl
   have hkinds : (x.kind == 1) = true ∨ ((x.kind == 1) = false ∧ (x.kind == 2) = true) ∨ ((x.kind == 1) = false ∧ (x.kind == 2) = false) := by
    cases (x.kind == 1) <;> cases (x.kind == 2) <;> simp
   have HTX := jh (fun W (hW : ∃ d : Wd (Only (fun k => k = gc) w3), W = d.w) => (show ∀ (j : Nat) (u : Value), ([.int .i64 x.tx.node, .int .i64 x.tx.life, .int .i64 x.tx.num] : List Value)[j]? = some u → W.cell? ⟨bb, o + k * 11 + 1 + j, none⟩ = some u from by
    obtain ⟨d, rfl⟩ := hW
    intro j u hj
    refine OnlyD.cell (F := (· = gc)) ?_ (fun e => by have e' : bb = gc := e; omega) d
    match j, hj with
    | 0, h => exact H2.out.2.2 1 _ h
    | 1, h => exact H2.out.2.2 2 _ h
    | 2, h => exact H2.out.2.2 3 _ h
    | j + 3, h => cases h))
   have HBT := jh (fun W (hW : ∃ d : Wd (Only (fun k => k = gc) w3), W = d.w) => (show ∀ (j : Nat) (u : Value), ([.string x.batch.key, .slice B x.batch.puts.length bc] : List Value)[j]? = some u → W.cell? ⟨bb, o + k * 11 + 4 + j, none⟩ = some u from by
    obtain ⟨d, rfl⟩ := hW
    intro j u hj
    refine OnlyD.cell (F := (· = gc)) ?_ (fun e => by have e' : bb = gc := e; omega) d
    match j, hj with
    | 0, h => exact H2.out.2.2 4 _ h
    | 1, h => exact H2.out.2.2 5 _ h
    | j + 2, h => cases h))
   have HST := jh (fun W (hW : ∃ d : Wd (Only (fun k => k = gc) w3), W = d.w) => (show ∀ (j : Nat) (u : Value), ([.int .i64 x.stamp.wall, .int .i64 x.stamp.logic, .int .i64 x.stamp.node] : List Value)[j]? = some u → W.cell? ⟨bb, o + k * 11 + 6 + j, none⟩ = some u from by
    obtain ⟨d, rfl⟩ := hW
    intro j u hj
    refine OnlyD.cell (F := (· = gc)) ?_ (fun e => by have e' : bb = gc := e; omega) d
    match j, hj with
    | 0, h => exact H2.out.2.2 6 _ h
    | 1, h => exact H2.out.2.2 7 _ h
    | 2, h => exact H2.out.2.2 8 _ h
    | j + 3, h => cases h))
   haveI : Nonempty (Wd (Only (fun k => k = gc) w3)) := ⟨⟨w3, Only.refl _ _⟩⟩
   have y9 := OnlyD.cell (F := (· = gc)) (show w3.cell? ⟨bb, o + k * 11 + 9, none⟩ = some (.bool x.yes) from H2.out.2.2 9 _ rfl) (by show bb ≠ gc; omega)
   have z0 := OnlyD.cell (F := (· = gc)) H2.out.1.c0 (show wb ≠ gc by omega)
   have z1 := OnlyD.cell (F := (· = gc)) H2.out.1.c1 (show wb ≠ gc by omega)
   have CP := jh (fun W (hW : Below w3.heap.size w3 W) => partPrepare_any g gc s c x.tx x.batch x.stamp B bc _ (fun k => k < w.heap.size) W (H2.out.1.ext hW).st (H2.out.1.inv.fit (by omega)) (by have := heldQ_few H2.out.1.inv; omega) H2.out.1.keyed (H2.out.1.ext hW).ck H2.out.1.ok (by omega) (H2.out.1.ext hW).pc (fun h => by have h' : gc < w.heap.size := h; omega) (by omega) (HPT.out.ext hW) HBT0.out.2.len ⟨by have := HBT0.out.1; omega, HBT0.out.2.key, fun p hp => by have := HBT0.out.1.2.2 p hp; omega⟩ HBT0.out.2.tx (H2.out.1.ext hW).tabs)
   have CD := jh (fun W (hW : Below w3.heap.size w3 W) => partDecide_any g gc s c x.tx x.yes x.stamp _ W (H2.out.1.ext hW).st (H2.out.1.inv.fit (by omega)) (by have := heldQ_few H2.out.1.inv; omega) H2.out.1.keyed (H2.out.1.ext hW).ck H2.out.1.ok (by omega) (H2.out.1.ext hW).pc HBT0.out.2.tx HBT0.out.2.stamp)
   rcases hkinds with e1 | ⟨e1, e2⟩ | ⟨e1, e2⟩
   ·clear CD
    go_wp2_with fail
    go_cut [7] from 38 to 62 (fun v wx => ∃ pb rA rc fA fc, v = .pointer (some ⟨pb, 0, none⟩) ∧ Blk wx pb 113 (planV (.slice rA (prepP s c x.tx x.batch x.stamp).2.recs.length rc) x.tx (prepP s c x.tx x.batch x.stamp).2.code (prepP s c x.tx x.batch x.stamp).2.stamp (.slice fA (prepP s c x.tx x.batch x.stamp).2.firsts.length fc) false false) ∧ ((prepP s c x.tx x.batch x.stamp).2.recs.length ≤ rc ∧ rc ≤ 9223372036854775807) ∧ RecR.Row wx (fun k => k < w.heap.size ∨ w3.heap.size ≤ k) rA (prepP s c x.tx x.batch x.stamp).2.recs ∧ CkAt wx gc (prepP s c x.tx x.batch x.stamp).1 ∧ Only (fun k => k = gc) w3 wx ∧ w3.heap.size ≤ pb)
    case first =>
     refine wp_region_mix (.fork [0, 1, 2, 3, 4, 5, 6, 7, 8, 9, 10, 11, 12, 13, 14, 15, 16, 17, 18, 19, 20, 21, 22, 23] 24 (.seg [] 25 (.seg [] 26 (.leaf []))) 25 (.seg [] 24 (.seg [] 26 (.leaf [])))) (fun w' => ∃ d : Wd (Only (fun k => k = gc) w3), w' = d.w) (by kernel_rfl) (by kernel_rfl) (fun _ _ d _ _ h => by cases d <;> exact h) (ClsW.mk Only.drew) ?_
     unfold wpMix; simp only [pick, j1, j2, j3, j4]
     (repeat (show wpQuiet _ _ _ _ (_ :: _) _; first | ((first | refine wpQuiet_load_at rfl rfl rfl HTX.out Tryz.underlying42 rfl (by kernel_rfl) ?_ | refine wpQuiet_load_at rfl rfl rfl HBT.out Tryz.underlying25 rfl (by kernel_rfl) ?_ | refine wpQuiet_load_at rfl rfl rfl HST.out Tryz.underlying40 rfl (by kernel_rfl) ?_); go_simp) | go_big_quiet_step (fail))); refine qn ?_
     constructor
     ·as_aux_lemma =>
       have hb0 : Below w3.heap.size w3 w3.drew := (jb _ _).drew
       have C5 := CP.out w3.drew hb0
       unfold ptrV prepV at C5
       unfold PlanOut at C5
       go_wp2_with fail
       refine C5.mono ?_
       clear C5
       rintro e v6 ⟨⟨rA, rc, fA, fc, rfl, hrc, hrow, _, _⟩, hck, hOc⟩
       have hO6 : Only (fun k => k = gc) w3 v6 := Only.tr Only.drew hOc
       have hz6 := hO6.size
       clear hOc hb0
       go_wp2_with fail
       (refine segw (D := Only (fun k => k = gc) w3) (hO6) ?_; unfold wpMix; simp only [pick, j1, j2, j3, j4]; (repeat (show wpQuiet _ _ _ _ (_ :: _) _; go_big_quiet_step (fail))); refine qn ?_)
       go_wp2_with fail
       have hb7 : Below v6.heap.size v6 (v6.alloc (.cells #[.slice none 0 0, .int .i64 0, .int .i64 0, .int .i64 0, .int .i64 0, .int .i64 0, .int .i64 0, .int .i64 0, .slice none 0 0, .bool false, .bool false] 113)) := by repeat (with_reducible first | assumption | exact jb _ _ | refine Below.al ?_ _ | refine Below.drew ?_ | apply Below.st1)
       have fZ : Blk (v6.alloc (.cells #[.slice none 0 0, .int .i64 0, .int .i64 0, .int .i64 0, .int .i64 0, .int .i64 0, .int .i64 0, .int .i64 0, .slice none 0 0, .bool false, .bool false] 113)) v6.heap.size 113 [.slice none 0 0, .int .i64 0, .int .i64 0, .int .i64 0, .int .i64 0, .int .i64 0, .int .i64 0, .int .i64 0, .slice none 0 0, .bool false, .bool false] := Blk.new v6 113 [.slice none 0 0, .int .i64 0, .int .i64 0, .int .i64 0, .int .i64 0, .int .i64 0, .int .i64 0, .int .i64 0, .slice none 0 0, .bool false, .bool false]
       have hr7 := (hrow.mono (Q := fun k => (k < w.heap.size ∨ w3.heap.size ≤ k) ∧ k < v6.heap.size) fun k hk hlt => ⟨by rcases hk with hk | hk; exact .inl hk; exact .inr (Nat.le_trans (by first | omega | exact Nat.le_refl _) hk), hlt⟩).ext hb7
       have hck2 := Blk.ext hck hb7
       have hO7 := hO6.tr (jo (F := fun k => k = gc) hb7)
       clear hrow hck hO6
       generalize v6.alloc (.cells #[.slice none 0 0, .int .i64 0, .int .i64 0, .int .i64 0, .int .i64 0, .int .i64 0, .int .i64 0, .int .i64 0, .slice none 0 0, .bool false, .bool false] 113) = v7 at *
       (refine segw (D := Only (fun k => k = gc) w3) (hO7) ?_; unfold wpMix; simp only [pick, j1, j2, j3, j4]; (repeat (show wpQuiet _ _ _ _ (_ :: _) _; go_big_quiet_step (fail))); refine qn ?_)
       refine wpList_store_blk (cs := planV (.slice rA (prepP s c x.tx x.batch x.stamp).2.recs.length rc) x.tx (prepP s c x.tx x.batch x.stamp).2.code (prepP s c x.tx x.batch x.stamp).2.stamp (.slice fA (prepP s c x.tx x.batch x.stamp).2.firsts.length fc) false false) rfl rfl rfl rfl rfl fZ (by kernel_rfl) rfl (by simp [planV, Value.oneCell']) ?_
       intro v9 hB9 hO9 hz9
       go_simp
       have hO10 := hO7.trans hO9 (fun q hq e => by have e' : q = v6.heap.size := e; omega)
       (refine segw (D := Only (fun k => k = gc) w3) (hO10) ?_; unfold wpMix; simp only [pick, List.filterMap_nil]; (repeat (show wpQuiet _ _ _ _ (_ :: _) _; go_big_quiet_step (fail))); refine qn ?_)
       go_wp2_with fail
       go_meet
       exact ⟨_, rA, rc, fA, fc, rfl, hB9, hrc, (hr7.same (Same.of_only hO9 fun k hk e => by have e' : k = v6.heap.size := e; have := hk.2; omega) hO9.size).mono fun k hk _ => hk.1, Blk.only hck2 hO9 (fun e => by have e' : gc = v6.heap.size := e; omega), hO10, hz6⟩
     ·go_wp2_with fail
      have hb6 : Below w3.heap.size w3 ((w3.alloc (.cells #[.slice none 0 0, .int .i64 0, .int .i64 0, .int .i64 0, .int .i64 0, .int .i64 0, .int .i64 0, .int .i64 0, .slice none 0 0, .bool false, .bool false] 113)).drew) := by repeat (with_reducible first | assumption | exact jb _ _ | refine Below.al ?_ _ | refine Below.drew ?_ | apply Below.st1)
      have fZ6 : Blk ((w3.alloc (.cells #[.slice none 0 0, .int .i64 0, .int .i64 0, .int .i64 0, .int .i64 0, .int .i64 0, .int .i64 0, .int .i64 0, .slice none 0 0, .bool false, .bool false] 113)).drew) w3.heap.size 113 [.slice none 0 0, .int .i64 0, .int .i64 0, .int .i64 0, .int .i64 0, .int .i64 0, .int .i64 0, .int .i64 0, .slice none 0 0, .bool false, .bool false] := Blk.new w3 113 [.slice none 0 0, .int .i64 0, .int .i64 0, .int .i64 0, .int .i64 0, .int .i64 0, .int .i64 0, .int .i64 0, .slice none 0 0, .bool false, .bool false]
      have hz6 : w3.heap.size < ((w3.alloc (.cells #[.slice none 0 0, .int .i64 0, .int .i64 0, .int .i64 0, .int .i64 0, .int .i64 0, .int .i64 0, .int .i64 0, .slice none 0 0, .bool false, .bool false] 113)).drew).heap.size := fZ6.lt
      generalize (w3.alloc (.cells #[.slice none 0 0, .int .i64 0, .int .i64 0, .int .i64 0, .int .i64 0, .int .i64 0, .int .i64 0, .int .i64 0, .slice none 0 0, .bool false, .bool false] 113)).drew = v6 at *
      (refine segw (D := Only (fun k => k = gc) w3) ((jo hb6)) ?_; unfold wpMix; simp only [pick, j1, j2, j3, j4]; (repeat (show wpQuiet _ _ _ _ (_ :: _) _; go_big_quiet_step (fail))); refine qn ?_)
      have C5 := CP.out v6 hb6
      unfold ptrV prepV at C5
      unfold PlanOut at C5
      go_wp2_with fail
      refine C5.mono ?_
      clear C5
      rintro e v7 ⟨⟨rA, rc, fA, fc, rfl, hrc, hrow, _, _⟩, hck, hOc⟩
      have hO7 := (jo (F := fun k => k = gc) hb6).tr hOc
      have fZ7 := fZ6.only hOc (fun e => by have e' : w3.heap.size = gc := e; omega)
      have hz7 := hOc.size
      have hck2 := hck
      clear hOc hb6 fZ6
      go_wp2_with fail
      (refine segw (D := Only (fun k => k = gc) w3) (hO7) ?_; unfold wpMix; simp only [pick, j1, j2, j3, j4]; (repeat (show wpQuiet _ _ _ _ (_ :: _) _; go_big_quiet_step (fail))); refine qn ?_)
      refine wpList_store_blk (cs := planV (.slice rA (prepP s c x.tx x.batch x.stamp).2.recs.length rc) x.tx (prepP s c x.tx x.batch x.stamp).2.code (prepP s c x.tx x.batch x.stamp).2.stamp (.slice fA (prepP s c x.tx x.batch x.stamp).2.firsts.length fc) false false) rfl rfl rfl rfl rfl fZ7 (by kernel_rfl) rfl (by simp [planV, Value.oneCell']) ?_
      intro v9 hB9 hO9 hz9
      go_simp
      have hO10 := hO7.trans hO9 (fun q hq e => by have e' : q = w3.heap.size := e; omega)
      (refine segw (D := Only (fun k => k = gc) w3) (hO10) ?_; unfold wpMix; simp only [pick, List.filterMap_nil]; (repeat (show wpQuiet _ _ _ _ (_ :: _) _; go_big_quiet_step (fail))); refine qn ?_)
      go_wp2_with fail
      go_meet
      exact ⟨_, rA, rc, fA, fc, rfl, hB9, hrc, (hrow.same (Same.of_only hO9 fun k hk e => by have e' : k = w3.heap.size := e; rcases hk with hk | hk <;> omega) hO9.size).mono fun k hk _ => by rcases hk with hk | hk; exact .inl hk; exact .inr (Nat.le_trans (by first | omega | exact Nat.le_refl _) hk), Blk.only hck2 hO9 (fun e => by have e' : gc = w3.heap.size := e; omega), hO10, Nat.le_refl _⟩
    case rest =>
     obtain ⟨pb, rA, rc, fA, fc, rfl, hBp, hrc, hrow, hck, hO, hpb⟩ := hcut
     have hso := prepP_stamps s c x.tx x.batch x.stamp (by rw [HNODE.out]; decide)
     have hqok := prepP_ok (s := s) (t := x.tx) (b := x.batch) (st := x.stamp) H2.out.1.ok
     clear CP HTX HBT HST y9 z0 z1 y0
     generalize prepP s c x.tx x.batch x.stamp = q at *
     have HUP := jh (less_up hso.node hso.up)
     have HQq := jh (H2.out.1.ckd h2 hck hO hqok (hso.node.trans HNODE.out))
     have HSB := jh (Blk.only H2.out.2.1 hO (fun e => by have e' : sb = gc := e; omega))
     have HXC := jh (fun j u hj => cell_only (F := (· = gc)) (H2.out.2.2 j u hj) hO (show bb ≠ gc by omega))
     have hone := hso.one
     clear hso hqok hck hO H2 HPT
     rcases hone with hrecs | ⟨hrecs, hs1, hs2, hs3⟩
     ·as_aux_lemma =>
       rw [hrecs] at hBp hrc hrow
       clear HXC hrecs
       have hrc2 := hrc.2
       have HZ0 := jh (fun nq => ja (HQq.out.ext ((jb wc.heap.size wc).drewN nq)) (ja (hBp.drewN nq) (HSB.out.drewN nq)))
       have HZ1 := jh (ja HQq.out (ja hBp HSB.out))
       have p0 : wc.cell? ⟨pb, 0, none⟩ = some (.slice rA 0 rc) := hBp.cell 0
       have hpl := hBp.lt
       clear hBp hrow
       go_upto_region 12 with fail
       go_quiet (fail)
       go_wp2_with fail
       go_loopw [8] (fun iv wr => iv = .int .i64 0 ∧ ∃ P2, QI w wb g gc P2 s q.1 N wr ∧ Blk wr pb 113 (planV (.slice rA 0 rc) x.tx q.2.code q.2.stamp (.slice fA q.2.firsts.length fc) false false) ∧ Blk wr sb 40 [.int .i64 c.last.wall, .int .i64 c.last.logic, .int .i64 c.last.node]) (fun _ _ => 0)
       case atStart => first | exact ⟨rfl, _, HZ0.out _⟩ | exact ⟨rfl, _, HZ1.out⟩
       case round =>
        obtain ⟨rfl, P2, hQ2, hB2, hS2⟩ := hrel
        have HZ := jh (ja hQ2 hS2)
        have p0 : wr.cell? ⟨pb, 0, none⟩ = some (.slice rA 0 rc) := hB2.cell 0
        have hpl := hB2.lt
        clear hQ2 hB2 hS2 HZ0 HZ1
        go_upto_region 24 with fail
        clear p0 hpl
        obtain ⟨c2, hc2⟩ : ∃ y, y = q.1 := ⟨_, rfl⟩
        obtain ⟨N2, hN2⟩ : ∃ y, y = N := ⟨_, rfl⟩
        rw [← hc2, ← hN2] at HZ
        have hup : lessS c2.last c.last = false := by rw [hc2]; exact HUP.out
        have hn2 : (N2 : Int) ≤ sizePs (l.take (k + 1)) := by omega
        clear hc2 hN2
        obtain ⟨wz, hwz⟩ : ∃ y, y = wr := ⟨_, rfl⟩
        subst hwz
        have z1 := On.cell HZ.out.1.c1
        have hzl := lt_of_cell HZ.out.1.c1
        have HWS := jh (fun W (hW : ∃ d : Wd (On wz), W = d.w) => (show Blk W sb 40 [.int .i64 c.last.wall, .int .i64 c.last.logic, .int .i64 c.last.node] from by
         obtain ⟨d, rfl⟩ := hW
         exact HZ.out.2.ext d.ok))
        refine wp_region_mix (.seg [0, 1, 2, 3, 5] 4 (.seg [] 6 (.leaf []))) (fun w' => ∃ d : Wd (On wz), w' = d.w) (by kernel_rfl) (by kernel_rfl) (fun _ _ d _ _ h => by cases d <;> exact h) (ClsW.mk (jb _ _).drew) ?_
        unfold wpMix; simp only [pick, j1, j2, j3, j4]
        (repeat (show wpQuiet _ _ _ _ (_ :: _) _; first | (refine wpQuiet_load_blk rfl rfl rfl HWS.out Tryz.underlying40 rfl (by kernel_rfl) ?_; go_simp) | go_big_quiet_step (fail))); refine qn ?_
        have HD := jh (HZ.out.1.ext (jb _ _).drew)
        have CN := clkNow_any gc c2 wz.drew HD.out.ck (by rw [HD.out.node]; rfl)
        unfold Stamp.cells at CN
        go_wp2_with fail
        refine CN.mono ?_
        clear CN
        rintro e y1 ⟨rfl, hb1⟩
        have HY := jh (HD.out.ext hb1)
        have hbz1 : Below wz.heap.size wz y1 := ((jb _ _).drew).tr hb1
        have CL := rLess_any c2.last c.last y1
        clear hb1
        go_wp2_with fail
        (refine segw (D := On wz) (hbz1) ?_; unfold wpMix; simp only [pick, j1, j2, j3, j4]; (repeat (show wpQuiet _ _ _ _ (_ :: _) _; go_big_quiet_step (fail))); refine qn ?_)
        go_wp2_with fail
        refine CL.mono ?_
        clear CL
        rintro e y2 ⟨rfl, hb2⟩
        have HY2 := jh (HY.out.ext hb2)
        have hbz2 := hbz1.tr hb2
        rw [hup]
        clear hb2
        go_wp2_with fail
        (refine segw (D := On wz) (hbz2) ?_; unfold wpMix; simp only [pick, List.filterMap_nil]; (repeat (show wpQuiet _ _ _ _ (_ :: _) _; go_big_quiet_step (fail))); refine qn ?_)
        clear HZ HD HY HWS z1 hzl hbz1 hbz2
        go_wp2_with fail
        go_round
        case rel => exact ⟨k + 1, _, _, _, N2, by omega, by go_num, by omega, HY2.out⟩
        case measure => simp [intOf]; omega
     ·as_aux_lemma =>
       rw [hrecs] at hBp hrc hrow
       rw [hs1] at hBp hrow hs2 hs3
       clear hrecs hs1
       obtain ⟨b5, o5, cs, rfl, hbP5, hbw5, hrep5, hcs5⟩ := hrow.at_ (show ([(prepR x.tx x.batch q.1.last)] : List Rec)[0]? = some (prepR x.tx x.batch q.1.last) from rfl)
       obtain ⟨nA, nc, pA, pc, sA, sc, rfl, hrec5⟩ := rec_rep.1 hrep5
       rw [Nat.zero_mul, Nat.add_zero] at hcs5
       have hb5g : b5 ≠ g := by have hx : b5 < w.heap.size ∨ w3.heap.size ≤ b5 := hbP5; omega
       have HREC := jh (ja hrec5 hcs5)
       have HBP := jh hBp
       have HRC := jh hrc
       clear hbP5 hbw5 hrep5 hcs5 hrec5 hBp hrc hrow
       have HAN := jh (fun W (hW : ∃ d : Wd (On wc), W = d.w) => (show ∀ (j : Nat) (u : Value), ([.int .i64 q.1.last.wall, .int .i64 q.1.last.logic, .int .i64 q.1.last.node] : List Value)[j]? = some u → W.cell? ⟨pb, 5 + j, none⟩ = some u from by
        obtain ⟨d, rfl⟩ := hW
        intro j u hj
        refine On.cell (show wc.cell? ⟨pb, 5 + j, none⟩ = some u from ?_) d
        rw [HBP.out.cell]
        match j, hj with
        | 0, h => exact h
        | 1, h => exact h
        | 2, h => exact h
        | j + 3, h => cases h))
       have HRS := jh (fun W (hW : ∃ d : Wd (On wc), W = d.w) => (show ∀ (j : Nat) (u : Value), ([.int .i64 q.1.last.wall, .int .i64 q.1.last.logic, .int .i64 q.1.last.node] : List Value)[j]? = some u → W.cell? ⟨b5, o5 + 4 + j, none⟩ = some u from by
        obtain ⟨d, rfl⟩ := hW
        intro j u hj
        refine On.cell (show wc.cell? ⟨b5, o5 + 4 + j, none⟩ = some u from ?_) d
        match j, hj with
        | 0, h => exact HREC.out.2 4 _ h
        | 1, h => exact HREC.out.2 5 _ h
        | 2, h => exact HREC.out.2 6 _ h
        | j + 3, h => cases h))
       have HWS := jh (fun W (hW : ∃ d : Wd (On wc), W = d.w) => (show Blk W sb 40 [.int .i64 c.last.wall, .int .i64 c.last.logic, .int .i64 c.last.node] from by
        obtain ⟨d, rfl⟩ := hW
        exact HSB.out.ext d.ok))
       have z1 := On.cell HQq.out.c1
       have p0 := On.cell (show wc.cell? ⟨pb, 0, none⟩ = some (.slice (some ⟨b5, o5, none⟩) 1 rc) from HBP.out.cell 0)
       have y6 := On.cell (show wc.cell? ⟨bb, o + k * 11 + 6, none⟩ = some (.int .i64 x.stamp.wall) from HXC.out 6 _ rfl)
       have y7 := On.cell (show wc.cell? ⟨bb, o + k * 11 + 7, none⟩ = some (.int .i64 x.stamp.logic) from HXC.out 7 _ rfl)
       have hpl := HBP.out.lt
       have hsl := HSB.out.lt
       have hwl := lt_of_cell HQq.out.c1
       have hrc1 := HRC.out.1
       have hrc2 := HRC.out.2
       go_upto_region 12 with fail
       refine wp_region_mix (.seg [0, 1, 2, 3, 4, 5, 6, 7, 8] 9 (.seg [10, 11, 12, 13, 14, 15, 16, 17, 18, 19, 20, 21, 22, 23, 24, 25, 26, 27] 28 (.seg [29, 30, 31, 32, 33, 34, 35, 36, 37] 38 (.leaf [39, 40, 41, 42, 43, 44, 45, 46, 47, 48, 49, 50, 51, 52])))) (fun w' => ∃ d : Wd (On wc), w' = d.w) (by kernel_rfl) (by kernel_rfl) (fun _ _ d _ _ h => by cases d <;> exact h) (ClsW.mk (jb _ _).drew) ?_
       unfold wpMix; simp only [pick, j1, j2, j3, j4]
       (repeat (show wpQuiet _ _ _ _ (_ :: _) _; first | ((first | refine wpQuiet_load_blk rfl rfl rfl HWS.out Tryz.underlying40 rfl (by kernel_rfl) ?_ | refine wpQuiet_load_at rfl rfl rfl HAN.out Tryz.underlying40 rfl (by kernel_rfl) ?_ | refine wpQuiet_load_at rfl rfl rfl HRS.out Tryz.underlying40 rfl (by kernel_rfl) ?_); go_simp) | go_big_quiet_step (fail))); refine qn ?_
       have CL := rLess_any c.last q.1.last wc.drew
       rw [hs2] at CL
       go_wp2_with fail
       refine CL.mono ?_
       clear CL
       rintro e v6 ⟨rfl, hb6⟩
       have hb6' : Below wc.heap.size wc v6 := ((jb _ _).drew).tr hb6
       have CL := rLess_any q.1.last ⟨x.stamp.wall, x.stamp.logic, 0⟩ v6
       rw [hs3] at CL
       clear hb6
       go_wp2_with fail
       dsimp only [wpList, SegQ]
       refine ⟨fun w' => ∃ d : Wd (On wc), w' = d.w, ClsW.mk (hb6'), fun _ h => h, ?_⟩
       unfold wpMix; simp only [pick, j1, j2, j3, j4]
       (repeat (show wpQuiet _ _ _ _ (_ :: _) _; first | ((first | refine wpQuiet_load_blk rfl rfl rfl HWS.out Tryz.underlying40 rfl (by kernel_rfl) ?_ | refine wpQuiet_load_at rfl rfl rfl HAN.out Tryz.underlying40 rfl (by kernel_rfl) ?_ | refine wpQuiet_load_at rfl rfl rfl HRS.out Tryz.underlying40 rfl (by kernel_rfl) ?_); go_simp) | go_big_quiet_step (fail))); refine qn ?_
       go_wp2_with fail
       refine CL.mono ?_
       clear CL
       rintro e v7 ⟨rfl, hb7⟩
       have hb7' : Below wc.heap.size wc v7 := hb6'.tr hb7
       have HQ7 := jh (HQq.out.ext hb7')
       have CN := clkNow_any gc q.1 v7 HQ7.out.ck (by rw [HQ7.out.node]; rfl)
       unfold Stamp.cells at CN
       clear hb7
       go_wp2_with fail
       dsimp only [wpList, SegQ]
       refine ⟨fun w' => ∃ d : Wd (On wc), w' = d.w, ClsW.mk (hb7'), fun _ h => h, ?_⟩
       unfold wpMix; simp only [pick, j1, j2, j3, j4]
       (repeat (show wpQuiet _ _ _ _ (_ :: _) _; first | ((first | refine wpQuiet_load_blk rfl rfl rfl HWS.out Tryz.underlying40 rfl (by kernel_rfl) ?_ | refine wpQuiet_load_at rfl rfl rfl HAN.out Tryz.underlying40 rfl (by kernel_rfl) ?_ | refine wpQuiet_load_at rfl rfl rfl HRS.out Tryz.underlying40 rfl (by kernel_rfl) ?_); go_simp) | go_big_quiet_step (fail))); refine qn ?_
       go_wp2_with fail
       refine CN.mono ?_
       clear CN
       rintro e wd ⟨rfl, hb8⟩
       have hb8' : Below wc.heap.size wc wd := hb7'.tr hb8
       clear hb8
       go_wp2_with fail
       dsimp only [wpList, SegQ]
       refine ⟨fun w' => ∃ d : Wd (On wc), w' = d.w, ClsW.mk (hb8'), fun _ h => h, ?_⟩
       unfold wpMix; simp only [pick, j1, j2, j3, j4]
       (repeat (show wpQuiet _ _ _ _ (_ :: _) _; first | ((first | refine wpQuiet_load_blk rfl rfl rfl HWS.out Tryz.underlying40 rfl (by kernel_rfl) ?_ | refine wpQuiet_load_at rfl rfl rfl HAN.out Tryz.underlying40 rfl (by kernel_rfl) ?_ | refine wpQuiet_load_at rfl rfl rfl HRS.out Tryz.underlying40 rfl (by kernel_rfl) ?_); go_simp) | go_big_quiet_step (fail))); refine qn ?_
       have HQd := jh (ja (HQq.out.ext hb8') (ja (HBP.out.ext hb8') (HSB.out.ext hb8')))
       have HRE2 := jh (ja (HREC.out.1.ext (js hb8') hb8'.size) (fun j u hj => cell_only (F := fun _ => False) (HREC.out.2 j u hj) (jo hb8') (fun h => h)))
       clear HAN HRS HWS z1 p0 y6 y7 hpl hsl hwl HQ7 HREC hb6' hb7' hb8' HQq HBP HSB HXC
       have HREC := HRE2
       clear HRE2
       go_wp2_with fail
       go_loopw [8] (fun iv wr => (iv = .int .i64 0 ∧ wr = wd) ∨ (iv = .int .i64 1 ∧ ∃ P2, QI w wb g gc P2 (applyS s (prepR x.tx x.batch q.1.last)).1 q.1 (N + costR (prepR x.tx x.batch q.1.last)) wr ∧ Blk wr pb 113 (planV (.slice (some ⟨b5, o5, none⟩) 1 rc) x.tx q.2.code q.1.last (.slice fA q.2.firsts.length fc) false false) ∧ Blk wr sb 40 [.int .i64 c.last.wall, .int .i64 c.last.logic, .int .i64 c.last.node])) (fun iv _ => 1 - (intOf iv).toNat)
       case atStart => exact .inl ⟨rfl, rfl⟩
       case round =>
        rcases hrel with ⟨rfl, rfl⟩ | ⟨rfl, P2, hQ2, hB2, hS2⟩
        ·as_aux_lemma =>
          haveI : Nonempty (Wd (Only (fun k => k = g) wr)) := ⟨⟨wr, Only.refl _ _⟩⟩
          have p0 := HQd.out.2.1.cell 0
          have z0 := OnlyD.cell (F := (· = g)) HQd.out.1.c0 HQd.out.1.ne.2.1
          have p1 := OnlyD.cell (F := (· = g)) (show wr.cell? ⟨pb, 0, none⟩ = some (.slice (some ⟨b5, o5, none⟩) 1 rc) from p0) (by show pb ≠ g; omega)
          simp only [planV, List.getElem?_cons_zero] at p0
          have hpl := HQd.out.2.1.lt
          have hrc := HRC.out.1
          have HMR := jh (fun W (hW : ∃ d : Wd (Only (fun k => k = g) wr), W = d.w) => (show ∀ (j : Nat) (u : Value), (((prepR x.tx x.batch q.1.last)).cells nA nc pA pc sA sc)[j]? = some u → W.cell? ⟨b5, o5 + j, none⟩ = some u from by
           obtain ⟨d, rfl⟩ := hW
           intro j u hj
           exact OnlyD.cell (F := (· = g)) (HREC.out.2 j u hj) (fun e => by have e' : b5 = g := e; omega) d))
          go_upto_region 17 with fail
          refine wp_region_mix (.seg [0, 1, 2, 3, 4, 5, 6, 7, 8] 9 (.leaf [])) (fun w' => ∃ d : Wd (Only (fun k => k = g) wr), w' = d.w) (by kernel_rfl) (by kernel_rfl) (fun _ _ d _ _ h => by cases d <;> exact h) (ClsW.mk Only.drew) ?_
          unfold wpMix; simp only [pick, j1, j2, j3, j4]
          (repeat (show wpQuiet _ _ _ _ (_ :: _) _; first | (refine wpQuiet_load_at rfl rfl rfl HMR.out Tryz.underlying46 rfl (by kernel_rfl) ?_; go_simp) | go_big_quiet_step (fail))); refine qn ?_
          have HD := jh (HQd.out.1.ext (jb _ _).drew)
          have C6 := applyP_any g s (prepR x.tx x.batch q.1.last) (.inl rfl) nA pA sA nc pc sc _ _ wr.drew HD.out.st HD.out.pg (HD.out.inv.fit (by omega)) (HREC.out.1.ext (js (jb _ _).drew) (Nat.le_refl _)) (fun h => by rcases h with h | h <;> omega) (prepR_fair (by omega)) HD.out.tabs (by have := HD.out.ge; omega) prepR_put (by have := sound_few HD.out.inv.ring; omega) (fresh_few HD.out.inv (by omega))
          unfold StOut ptrV at C6
          go_wp2_with fail
          refine C6.mono ?_
          clear C6
          rintro e v8 ⟨rfl, hst, hO⟩
          have hO8 : Only (fun k => k = g) wr v8 := Only.tr Only.drew hO
          have H8 := jh (ja (HD.out.stt h2 hst hO (apply_inv HD.out.inv (by omega)) (apply_keyed HD.out.keyed)) (ja (HQd.out.2.1.only hO8 (fun e => by have e' : pb = g := e; omega)) (HQd.out.2.2.only hO8 (fun e => by have e' : sb = g := e; omega))))
          clear hst hO
          go_wp2_with fail
          (refine segw (D := Only (fun k => k = g) wr) (hO8) ?_; unfold wpMix; simp only [pick, List.filterMap_nil]; (repeat (show wpQuiet _ _ _ _ (_ :: _) _; go_big_quiet_step (fail))); refine qn ?_)
          clear HMR HD p0 p1 z0 hO8
          go_wp2_with fail
          go_round
          case rel => exact .inr ⟨rfl, _, H8.out⟩
          case measure => simp [intOf]
        ·have HZ := jh (ja hQ2 hS2)
         have p0 := hB2.cell 0
         simp only [planV, List.getElem?_cons_zero] at p0
         have hpl := hB2.lt
         clear hQ2 hB2 hS2
         go_upto_region 24 with fail
         generalize (applyS s (prepR x.tx x.batch q.1.last)).1 = s2 at *
         obtain ⟨c2, hc2⟩ : ∃ y, y = q.1 := ⟨_, rfl⟩
         obtain ⟨N2, hN2⟩ : ∃ y, y = N + costR (prepR x.tx x.batch q.1.last) := ⟨_, rfl⟩
         have hcost := (prepR_cost (t := x.tx) (b := x.batch) (st := q.1.last))
         rw [← hN2, ← hc2] at HZ
         have hup : lessS c2.last c.last = false := by rw [hc2]; exact HUP.out
         have hn2 : (N2 : Int) ≤ sizePs (l.take (k + 1)) := by omega
         have HC2 := jh hc2
         clear hc2 p0 hpl
         obtain ⟨wz, hwz⟩ : ∃ y, y = wr := ⟨_, rfl⟩
         subst hwz
         have z1 := On.cell HZ.out.1.c1
         have hzl := lt_of_cell HZ.out.1.c1
         have HWS := jh (fun W (hW : ∃ d : Wd (On wz), W = d.w) => (show Blk W sb 40 [.int .i64 c.last.wall, .int .i64 c.last.logic, .int .i64 c.last.node] from by
          obtain ⟨d, rfl⟩ := hW
          exact HZ.out.2.ext d.ok))
         refine wp_region_mix (.seg [0, 1, 2, 3, 5] 4 (.seg [] 6 (.leaf []))) (fun w' => ∃ d : Wd (On wz), w' = d.w) (by kernel_rfl) (by kernel_rfl) (fun _ _ d _ _ h => by cases d <;> exact h) (ClsW.mk (jb _ _).drew) ?_
         unfold wpMix; simp only [pick, j1, j2, j3, j4]
         (repeat (show wpQuiet _ _ _ _ (_ :: _) _; first | (refine wpQuiet_load_blk rfl rfl rfl HWS.out Tryz.underlying40 rfl (by kernel_rfl) ?_; go_simp) | go_big_quiet_step (fail))); refine qn ?_
         have HD := jh (HZ.out.1.ext (jb _ _).drew)
         have CN := clkNow_any gc c2 wz.drew HD.out.ck (by rw [HD.out.node]; rfl)
         unfold Stamp.cells at CN
         go_wp2_with fail
         refine CN.mono ?_
         clear CN
         rintro e y1 ⟨rfl, hb1⟩
         have HY := jh (HD.out.ext hb1)
         have hbz1 : Below wz.heap.size wz y1 := ((jb _ _).drew).tr hb1
         have CL := rLess_any c2.last c.last y1
         clear hb1
         go_wp2_with fail
         (refine segw (D := On wz) (hbz1) ?_; unfold wpMix; simp only [pick, j1, j2, j3, j4]; (repeat (show wpQuiet _ _ _ _ (_ :: _) _; go_big_quiet_step (fail))); refine qn ?_)
         go_wp2_with fail
         refine CL.mono ?_
         clear CL
         rintro e y2 ⟨rfl, hb2⟩
         have HY2 := jh (HY.out.ext hb2)
         have hbz2 := hbz1.tr hb2
         rw [hup]
         clear hb2
         go_wp2_with fail
         (refine segw (D := On wz) (hbz2) ?_; unfold wpMix; simp only [pick, List.filterMap_nil]; (repeat (show wpQuiet _ _ _ _ (_ :: _) _; go_big_quiet_step (fail))); refine qn ?_)
         clear HZ HD HY HWS z1 hzl hbz1 hbz2
         go_wp2_with fail
         go_round
         case rel => exact ⟨k + 1, _, _, _, N2, by omega, by go_num, by omega, HY2.out⟩
         case measure => simp [intOf]; omega
   ·clear CP
    go_wp2_with fail
    go_cut [9] from 139 to 163 (fun v wx => ∃ pb rA rc, v = .pointer (some ⟨pb, 0, none⟩) ∧ Blk wx pb 113 (planV (.slice rA (decP s c x.tx x.yes x.stamp).2.1.length rc) zeroTx 0 zeroStamp (.slice none 0 0) (decP s c x.tx x.yes x.stamp).2.2 x.yes) ∧ ((decP s c x.tx x.yes x.stamp).2.1.length ≤ rc ∧ rc ≤ 9223372036854775807) ∧ RecR.Row wx (fun k => k < w.heap.size ∨ w3.heap.size ≤ k) rA (decP s c x.tx x.yes x.stamp).2.1 ∧ CkAt wx gc (decP s c x.tx x.yes x.stamp).1 ∧ Only (fun k => k = gc) w3 wx ∧ w3.heap.size ≤ pb)
    case first =>
     refine wp_region_mix (.fork [0, 1, 2, 3, 4, 5, 6, 7, 8, 9, 10, 11, 12, 13, 14, 15, 16, 17, 18, 19, 20, 21, 22, 23] 24 (.seg [] 25 (.seg [] 26 (.leaf []))) 25 (.seg [] 24 (.seg [] 26 (.leaf [])))) (fun w' => ∃ d : Wd (Only (fun k => k = gc) w3), w' = d.w) (by kernel_rfl) (by kernel_rfl) (fun _ _ d _ _ h => by cases d <;> exact h) (ClsW.mk Only.drew) ?_
     unfold wpMix; simp only [pick, j1, j2, j3, j4]
     (repeat (show wpQuiet _ _ _ _ (_ :: _) _; first | ((first | refine wpQuiet_load_at rfl rfl rfl HTX.out Tryz.underlying42 rfl (by kernel_rfl) ?_ | refine wpQuiet_load_at rfl rfl rfl HBT.out Tryz.underlying25 rfl (by kernel_rfl) ?_ | refine wpQuiet_load_at rfl rfl rfl HST.out Tryz.underlying40 rfl (by kernel_rfl) ?_); go_simp) | go_big_quiet_step (fail))); refine qn ?_
     constructor
     ·as_aux_lemma =>
       have hb0 : Below w3.heap.size w3 w3.drew := (jb _ _).drew
       have C5 := CD.out w3.drew hb0
       unfold ptrV decV at C5
       unfold DecOut at C5
       go_wp2_with fail
       refine C5.mono ?_
       clear C5
       rintro e v6 ⟨⟨rA, rc, rfl, hrc, hrow⟩, hck, hOc⟩
       have hO6 : Only (fun k => k = gc) w3 v6 := Only.tr Only.drew hOc
       have hz6 := hO6.size
       clear hOc hb0
       go_wp2_with fail
       (refine segw (D := Only (fun k => k = gc) w3) (hO6) ?_; unfold wpMix; simp only [pick, j1, j2, j3, j4]; (repeat (show wpQuiet _ _ _ _ (_ :: _) _; go_big_quiet_step (fail))); refine qn ?_)
       go_wp2_with fail
       have hb7 : Below v6.heap.size v6 (v6.alloc (.cells #[.slice none 0 0, .int .i64 0, .int .i64 0, .int .i64 0, .int .i64 0, .int .i64 0, .int .i64 0, .int .i64 0, .slice none 0 0, .bool false, .bool false] 113)) := by repeat (with_reducible first | assumption | exact jb _ _ | refine Below.al ?_ _ | refine Below.drew ?_ | apply Below.st1)
       have fZ : Blk (v6.alloc (.cells #[.slice none 0 0, .int .i64 0, .int .i64 0, .int .i64 0, .int .i64 0, .int .i64 0, .int .i64 0, .int .i64 0, .slice none 0 0, .bool false, .bool false] 113)) v6.heap.size 113 [.slice none 0 0, .int .i64 0, .int .i64 0, .int .i64 0, .int .i64 0, .int .i64 0, .int .i64 0, .int .i64 0, .slice none 0 0, .bool false, .bool false] := Blk.new v6 113 [.slice none 0 0, .int .i64 0, .int .i64 0, .int .i64 0, .int .i64 0, .int .i64 0, .int .i64 0, .int .i64 0, .slice none 0 0, .bool false, .bool false]
       have hr7 := (hrow.mono (Q := fun k => (k < w.heap.size ∨ w3.heap.size ≤ k) ∧ k < v6.heap.size) fun k hk hlt => ⟨by exact .inr (Nat.le_trans (by first | omega | exact Nat.le_refl _) hk), hlt⟩).ext hb7
       have hck2 := Blk.ext hck hb7
       have hO7 := hO6.tr (jo (F := fun k => k = gc) hb7)
       clear hrow hck hO6
       generalize v6.alloc (.cells #[.slice none 0 0, .int .i64 0, .int .i64 0, .int .i64 0, .int .i64 0, .int .i64 0, .int .i64 0, .int .i64 0, .slice none 0 0, .bool false, .bool false] 113) = v7 at *
       (refine segw (D := Only (fun k => k = gc) w3) (hO7) ?_; unfold wpMix; simp only [pick, j1, j2, j3, j4]; (repeat (show wpQuiet _ _ _ _ (_ :: _) _; go_big_quiet_step (fail))); refine qn ?_)
       refine wpList_store_blk (cs := planV (.slice rA (decP s c x.tx x.yes x.stamp).2.1.length rc) zeroTx 0 zeroStamp (.slice none 0 0) (decP s c x.tx x.yes x.stamp).2.2 x.yes) rfl rfl rfl rfl rfl fZ (by kernel_rfl) rfl (by simp [planV, Value.oneCell']) ?_
       intro v9 hB9 hO9 hz9
       go_simp
       have hO10 := hO7.trans hO9 (fun q hq e => by have e' : q = v6.heap.size := e; omega)
       (refine segw (D := Only (fun k => k = gc) w3) (hO10) ?_; unfold wpMix; simp only [pick, List.filterMap_nil]; (repeat (show wpQuiet _ _ _ _ (_ :: _) _; go_big_quiet_step (fail))); refine qn ?_)
       go_wp2_with fail
       go_meet
       exact ⟨_, rA, rc, rfl, hB9, hrc, (hr7.same (Same.of_only hO9 fun k hk e => by have e' : k = v6.heap.size := e; have := hk.2; omega) hO9.size).mono fun k hk _ => hk.1, Blk.only hck2 hO9 (fun e => by have e' : gc = v6.heap.size := e; omega), hO10, hz6⟩
     ·go_wp2_with fail
      have hb6 : Below w3.heap.size w3 ((w3.alloc (.cells #[.slice none 0 0, .int .i64 0, .int .i64 0, .int .i64 0, .int .i64 0, .int .i64 0, .int .i64 0, .int .i64 0, .slice none 0 0, .bool false, .bool false] 113)).drew) := by repeat (with_reducible first | assumption | exact jb _ _ | refine Below.al ?_ _ | refine Below.drew ?_ | apply Below.st1)
      have fZ6 : Blk ((w3.alloc (.cells #[.slice none 0 0, .int .i64 0, .int .i64 0, .int .i64 0, .int .i64 0, .int .i64 0, .int .i64 0, .int .i64 0, .slice none 0 0, .bool false, .bool false] 113)).drew) w3.heap.size 113 [.slice none 0 0, .int .i64 0, .int .i64 0, .int .i64 0, .int .i64 0, .int .i64 0, .int .i64 0, .int .i64 0, .slice none 0 0, .bool false, .bool false] := Blk.new w3 113 [.slice none 0 0, .int .i64 0, .int .i64 0, .int .i64 0, .int .i64 0, .int .i64 0, .int .i64 0, .int .i64 0, .slice none 0 0, .bool false, .bool false]
      have hz6 : w3.heap.size < ((w3.alloc (.cells #[.slice none 0 0, .int .i64 0, .int .i64 0, .int .i64 0, .int .i64 0, .int .i64 0, .int .i64 0, .int .i64 0, .slice none 0 0, .bool false, .bool false] 113)).drew).heap.size := fZ6.lt
      generalize (w3.alloc (.cells #[.slice none 0 0, .int .i64 0, .int .i64 0, .int .i64 0, .int .i64 0, .int .i64 0, .int .i64 0, .int .i64 0, .slice none 0 0, .bool false, .bool false] 113)).drew = v6 at *
      (refine segw (D := Only (fun k => k = gc) w3) ((jo hb6)) ?_; unfold wpMix; simp only [pick, j1, j2, j3, j4]; (repeat (show wpQuiet _ _ _ _ (_ :: _) _; go_big_quiet_step (fail))); refine qn ?_)
      have C5 := CD.out v6 hb6
      unfold ptrV decV at C5
      unfold DecOut at C5
      go_wp2_with fail
      refine C5.mono ?_
      clear C5
      rintro e v7 ⟨⟨rA, rc, rfl, hrc, hrow⟩, hck, hOc⟩
      have hO7 := (jo (F := fun k => k = gc) hb6).tr hOc
      have fZ7 := fZ6.only hOc (fun e => by have e' : w3.heap.size = gc := e; omega)
      have hz7 := hOc.size
      have hck2 := hck
      clear hOc hb6 fZ6
      go_wp2_with fail
      (refine segw (D := Only (fun k => k = gc) w3) (hO7) ?_; unfold wpMix; simp only [pick, j1, j2, j3, j4]; (repeat (show wpQuiet _ _ _ _ (_ :: _) _; go_big_quiet_step (fail))); refine qn ?_)
      refine wpList_store_blk (cs := planV (.slice rA (decP s c x.tx x.yes x.stamp).2.1.length rc) zeroTx 0 zeroStamp (.slice none 0 0) (decP s c x.tx x.yes x.stamp).2.2 x.yes) rfl rfl rfl rfl rfl fZ7 (by kernel_rfl) rfl (by simp [planV, Value.oneCell']) ?_
      intro v9 hB9 hO9 hz9
      go_simp
      have hO10 := hO7.trans hO9 (fun q hq e => by have e' : q = w3.heap.size := e; omega)
      (refine segw (D := Only (fun k => k = gc) w3) (hO10) ?_; unfold wpMix; simp only [pick, List.filterMap_nil]; (repeat (show wpQuiet _ _ _ _ (_ :: _) _; go_big_quiet_step (fail))); refine qn ?_)
      go_wp2_with fail
      go_meet
      exact ⟨_, rA, rc, rfl, hB9, hrc, (hrow.same (Same.of_only hO9 fun k hk e => by have e' : k = w3.heap.size := e; have hk' : v6.heap.size ≤ k := hk; omega) hO9.size).mono fun k hk _ => by exact .inr (Nat.le_trans (by first | omega | exact Nat.le_refl _) hk), Blk.only hck2 hO9 (fun e => by have e' : gc = w3.heap.size := e; omega), hO10, Nat.le_refl _⟩
    case rest =>
     obtain ⟨pb, rA, rc, rfl, hBp, hrc, hrow, hck, hO, hpb⟩ := hcut
     have hso := decP_stamps s c x.tx x.yes x.stamp
     have hqok := decP_ok (s := s) (t := x.tx) (yes := x.yes) (st := x.stamp) H2.out.1.ok
     clear CD HTX HBT HST y9 z0 z1 y0
     generalize decP s c x.tx x.yes x.stamp = q at *
     have HUP := jh (less_up hso.1 hso.2.1)
     have HQq := jh (H2.out.1.ckd h2 hck hO hqok (hso.1.trans HNODE.out))
     have HSB := jh (Blk.only H2.out.2.1 hO (fun e => by have e' : sb = gc := e; omega))
     have hone := hso.2.2
     clear hso hqok hck hO H2 HPT
     rcases hone with hrecs | ⟨x9, hrecs, _⟩
     ·as_aux_lemma =>
       rw [hrecs] at hBp hrc hrow
       clear hrecs
       have hrc2 := hrc.2
       have HZ0 := jh (fun nq => ja (HQq.out.ext ((jb wc.heap.size wc).drewN nq)) (ja (hBp.drewN nq) (HSB.out.drewN nq)))
       have HZ1 := jh (ja HQq.out (ja hBp HSB.out))
       have p0 : wc.cell? ⟨pb, 0, none⟩ = some (.slice rA 0 rc) := hBp.cell 0
       have hpl := hBp.lt
       clear hBp hrow
       go_wp2_with fail
       go_loopw [10] (fun iv wr => iv = .int .i64 0 ∧ ∃ P2, QI w wb g gc P2 s q.1 N wr ∧ Blk wr pb 113 (planV (.slice rA 0 rc) zeroTx 0 zeroStamp (.slice none 0 0) q.2.2 x.yes) ∧ Blk wr sb 40 [.int .i64 c.last.wall, .int .i64 c.last.logic, .int .i64 c.last.node]) (fun _ _ => 0)
       case atStart => first | exact ⟨rfl, _, HZ0.out _⟩ | exact ⟨rfl, _, HZ1.out⟩
       case round =>
        obtain ⟨rfl, P2, hQ2, hB2, hS2⟩ := hrel
        have HZ := jh (ja hQ2 hS2)
        have p0 : wr.cell? ⟨pb, 0, none⟩ = some (.slice rA 0 rc) := hB2.cell 0
        have hpl := hB2.lt
        clear hQ2 hB2 hS2 HZ0 HZ1
        go_upto_region 24 with fail
        clear p0 hpl
        obtain ⟨c2, hc2⟩ : ∃ y, y = q.1 := ⟨_, rfl⟩
        obtain ⟨N2, hN2⟩ : ∃ y, y = N := ⟨_, rfl⟩
        rw [← hc2, ← hN2] at HZ
        have hup : lessS c2.last c.last = false := by rw [hc2]; exact HUP.out
        have hn2 : (N2 : Int) ≤ sizePs (l.take (k + 1)) := by omega
        clear hc2 hN2
        obtain ⟨wz, hwz⟩ : ∃ y, y = wr := ⟨_, rfl⟩
        subst hwz
        have z1 := On.cell HZ.out.1.c1
        have hzl := lt_of_cell HZ.out.1.c1
        have HWS := jh (fun W (hW : ∃ d : Wd (On wz), W = d.w) => (show Blk W sb 40 [.int .i64 c.last.wall, .int .i64 c.last.logic, .int .i64 c.last.node] from by
         obtain ⟨d, rfl⟩ := hW
         exact HZ.out.2.ext d.ok))
        refine wp_region_mix (.seg [0, 1, 2, 3, 5] 4 (.seg [] 6 (.leaf []))) (fun w' => ∃ d : Wd (On wz), w' = d.w) (by kernel_rfl) (by kernel_rfl) (fun _ _ d _ _ h => by cases d <;> exact h) (ClsW.mk (jb _ _).drew) ?_
        unfold wpMix; simp only [pick, j1, j2, j3, j4]
        (repeat (show wpQuiet _ _ _ _ (_ :: _) _; first | (refine wpQuiet_load_blk rfl rfl rfl HWS.out Tryz.underlying40 rfl (by kernel_rfl) ?_; go_simp) | go_big_quiet_step (fail))); refine qn ?_
        have HD := jh (HZ.out.1.ext (jb _ _).drew)
        have CN := clkNow_any gc c2 wz.drew HD.out.ck (by rw [HD.out.node]; rfl)
        unfold Stamp.cells at CN
        go_wp2_with fail
        refine CN.mono ?_
        clear CN
        rintro e y1 ⟨rfl, hb1⟩
        have HY := jh (HD.out.ext hb1)
        have hbz1 : Below wz.heap.size wz y1 := ((jb _ _).drew).tr hb1
        have CL := rLess_any c2.last c.last y1
        clear hb1
        go_wp2_with fail
        (refine segw (D := On wz) (hbz1) ?_; unfold wpMix; simp only [pick, j1, j2, j3, j4]; (repeat (show wpQuiet _ _ _ _ (_ :: _) _; go_big_quiet_step (fail))); refine qn ?_)
        go_wp2_with fail
        refine CL.mono ?_
        clear CL
        rintro e y2 ⟨rfl, hb2⟩
        have HY2 := jh (HY.out.ext hb2)
        have hbz2 := hbz1.tr hb2
        rw [hup]
        clear hb2
        go_wp2_with fail
        (refine segw (D := On wz) (hbz2) ?_; unfold wpMix; simp only [pick, List.filterMap_nil]; (repeat (show wpQuiet _ _ _ _ (_ :: _) _; go_big_quiet_step (fail))); refine qn ?_)
        clear HZ HD HY HWS z1 hzl hbz1 hbz2
        go_wp2_with fail
        go_round
        case rel => exact ⟨k + 1, _, _, _, N2, by omega, by go_num, by omega, HY2.out⟩
        case measure => simp [intOf]; omega
     ·as_aux_lemma =>
       rw [hrecs] at hBp hrc hrow
       clear hrecs
       obtain ⟨b5, o5, cs, rfl, hbP5, hbw5, hrep5, hcs5⟩ := hrow.at_ (show ([(decR x.tx x.yes x9)] : List Rec)[0]? = some (decR x.tx x.yes x9) from rfl)
       obtain ⟨nA, nc, pA, pc, sA, sc, rfl, hrec5⟩ := rec_rep.1 hrep5
       rw [Nat.zero_mul, Nat.add_zero] at hcs5
       have hb5g : b5 ≠ g := by have hx : b5 < w.heap.size ∨ w3.heap.size ≤ b5 := hbP5; omega
       have HREC := jh (ja hrec5 hcs5)
       have HRC := jh hrc
       have HQd := jh (ja HQq.out (ja hBp HSB.out))
       obtain ⟨wd, hwd⟩ : ∃ y, y = wc := ⟨_, rfl⟩
       subst hwd
       clear hbP5 hbw5 hrep5 hcs5 hrec5 hBp hrc hrow
       go_wp2_with fail
       go_loopw [10] (fun iv wr => (iv = .int .i64 0 ∧ wr = wd) ∨ (iv = .int .i64 1 ∧ ∃ P2, QI w wb g gc P2 (applyS s (decR x.tx x.yes x9)).1 q.1 (N + costR (decR x.tx x.yes x9)) wr ∧ Blk wr pb 113 (planV (.slice (some ⟨b5, o5, none⟩) 1 rc) zeroTx 0 zeroStamp (.slice none 0 0) q.2.2 x.yes) ∧ Blk wr sb 40 [.int .i64 c.last.wall, .int .i64 c.last.logic, .int .i64 c.last.node])) (fun iv _ => 1 - (intOf iv).toNat)
       case atStart => exact .inl ⟨rfl, rfl⟩
       case round =>
        rcases hrel with ⟨rfl, rfl⟩ | ⟨rfl, P2, hQ2, hB2, hS2⟩
        ·as_aux_lemma =>
          haveI : Nonempty (Wd (Only (fun k => k = g) wr)) := ⟨⟨wr, Only.refl _ _⟩⟩
          have p0 := HQd.out.2.1.cell 0
          have z0 := OnlyD.cell (F := (· = g)) HQd.out.1.c0 HQd.out.1.ne.2.1
          have p1 := OnlyD.cell (F := (· = g)) (show wr.cell? ⟨pb, 0, none⟩ = some (.slice (some ⟨b5, o5, none⟩) 1 rc) from p0) (by show pb ≠ g; omega)
          simp only [planV, List.getElem?_cons_zero] at p0
          have hpl := HQd.out.2.1.lt
          have hrc := HRC.out.1
          have HMR := jh (fun W (hW : ∃ d : Wd (Only (fun k => k = g) wr), W = d.w) => (show ∀ (j : Nat) (u : Value), (((decR x.tx x.yes x9)).cells nA nc pA pc sA sc)[j]? = some u → W.cell? ⟨b5, o5 + j, none⟩ = some u from by
           obtain ⟨d, rfl⟩ := hW
           intro j u hj
           exact OnlyD.cell (F := (· = g)) (HREC.out.2 j u hj) (fun e => by have e' : b5 = g := e; omega) d))
          go_upto_region 23 with fail
          refine wp_region_mix (.seg [0, 1, 2, 3, 4, 5, 6, 7, 8] 9 (.leaf [])) (fun w' => ∃ d : Wd (Only (fun k => k = g) wr), w' = d.w) (by kernel_rfl) (by kernel_rfl) (fun _ _ d _ _ h => by cases d <;> exact h) (ClsW.mk Only.drew) ?_
          unfold wpMix; simp only [pick, j1, j2, j3, j4]
          (repeat (show wpQuiet _ _ _ _ (_ :: _) _; first | (refine wpQuiet_load_at rfl rfl rfl HMR.out Tryz.underlying46 rfl (by kernel_rfl) ?_; go_simp) | go_big_quiet_step (fail))); refine qn ?_
          have HD := jh (HQd.out.1.ext (jb _ _).drew)
          have C6 := applyP_any g s (decR x.tx x.yes x9) (.inr rfl) nA pA sA nc pc sc _ _ wr.drew HD.out.st HD.out.pg (HD.out.inv.fit (by omega)) (HREC.out.1.ext (js (jb _ _).drew) (Nat.le_refl _)) (fun h => by rcases h with h | h <;> omega) decR_fair HD.out.tabs (by have := HD.out.ge; omega) decR_put (by have := sound_few HD.out.inv.ring; omega) (fresh_few HD.out.inv (by omega))
          unfold StOut ptrV at C6
          go_wp2_with fail
          refine C6.mono ?_
          clear C6
          rintro e v8 ⟨rfl, hst, hO⟩
          have hO8 : Only (fun k => k = g) wr v8 := Only.tr Only.drew hO
          have H8 := jh (ja (HD.out.stt h2 hst hO (apply_inv HD.out.inv (by omega)) (apply_keyed HD.out.keyed)) (ja (HQd.out.2.1.only hO8 (fun e => by have e' : pb = g := e; omega)) (HQd.out.2.2.only hO8 (fun e => by have e' : sb = g := e; omega))))
          clear hst hO
          go_wp2_with fail
          (refine segw (D := Only (fun k => k = g) wr) (hO8) ?_; unfold wpMix; simp only [pick, List.filterMap_nil]; (repeat (show wpQuiet _ _ _ _ (_ :: _) _; go_big_quiet_step (fail))); refine qn ?_)
          clear HMR HD p0 p1 z0 hO8
          go_wp2_with fail
          go_round
          case rel => exact .inr ⟨rfl, _, H8.out⟩
          case measure => simp [intOf]
        ·have HZ := jh (ja hQ2 hS2)
         have p0 := hB2.cell 0
         simp only [planV, List.getElem?_cons_zero] at p0
         have hpl := hB2.lt
         clear hQ2 hB2 hS2
         go_upto_region 24 with fail
         generalize (applyS s (decR x.tx x.yes x9)).1 = s2 at *
         obtain ⟨c2, hc2⟩ : ∃ y, y = q.1 := ⟨_, rfl⟩
         obtain ⟨N2, hN2⟩ : ∃ y, y = N + costR (decR x.tx x.yes x9) := ⟨_, rfl⟩
         have hcost := (show costR (decR x.tx x.yes x9) = 0 from decR_cost)
         rw [← hN2, ← hc2] at HZ
         have hup : lessS c2.last c.last = false := by rw [hc2]; exact HUP.out
         have hn2 : (N2 : Int) ≤ sizePs (l.take (k + 1)) := by omega
         have HC2 := jh hc2
         clear hc2 p0 hpl
         obtain ⟨wz, hwz⟩ : ∃ y, y = wr := ⟨_, rfl⟩
         subst hwz
         have z1 := On.cell HZ.out.1.c1
         have hzl := lt_of_cell HZ.out.1.c1
         have HWS := jh (fun W (hW : ∃ d : Wd (On wz), W = d.w) => (show Blk W sb 40 [.int .i64 c.last.wall, .int .i64 c.last.logic, .int .i64 c.last.node] from by
          obtain ⟨d, rfl⟩ := hW
          exact HZ.out.2.ext d.ok))
         refine wp_region_mix (.seg [0, 1, 2, 3, 5] 4 (.seg [] 6 (.leaf []))) (fun w' => ∃ d : Wd (On wz), w' = d.w) (by kernel_rfl) (by kernel_rfl) (fun _ _ d _ _ h => by cases d <;> exact h) (ClsW.mk (jb _ _).drew) ?_
         unfold wpMix; simp only [pick, j1, j2, j3, j4]
         (repeat (show wpQuiet _ _ _ _ (_ :: _) _; first | (refine wpQuiet_load_blk rfl rfl rfl HWS.out Tryz.underlying40 rfl (by kernel_rfl) ?_; go_simp) | go_big_quiet_step (fail))); refine qn ?_
         have HD := jh (HZ.out.1.ext (jb _ _).drew)
         have CN := clkNow_any gc c2 wz.drew HD.out.ck (by rw [HD.out.node]; rfl)
         unfold Stamp.cells at CN
         go_wp2_with fail
         refine CN.mono ?_
         clear CN
         rintro e y1 ⟨rfl, hb1⟩
         have HY := jh (HD.out.ext hb1)
         have hbz1 : Below wz.heap.size wz y1 := ((jb _ _).drew).tr hb1
         have CL := rLess_any c2.last c.last y1
         clear hb1
         go_wp2_with fail
         (refine segw (D := On wz) (hbz1) ?_; unfold wpMix; simp only [pick, j1, j2, j3, j4]; (repeat (show wpQuiet _ _ _ _ (_ :: _) _; go_big_quiet_step (fail))); refine qn ?_)
         go_wp2_with fail
         refine CL.mono ?_
         clear CL
         rintro e y2 ⟨rfl, hb2⟩
         have HY2 := jh (HY.out.ext hb2)
         have hbz2 := hbz1.tr hb2
         rw [hup]
         clear hb2
         go_wp2_with fail
         (refine segw (D := On wz) (hbz2) ?_; unfold wpMix; simp only [pick, List.filterMap_nil]; (repeat (show wpQuiet _ _ _ _ (_ :: _) _; go_big_quiet_step (fail))); refine qn ?_)
         clear HZ HD HY HWS z1 hzl hbz1 hbz2
         go_wp2_with fail
         go_round
         case rel => exact ⟨k + 1, _, _, _, N2, by omega, by go_num, by omega, HY2.out⟩
         case measure => simp [intOf]; omega
   ·as_aux_lemma =>
     clear CP CD HTX HBT HST y9 z0 z1
     have HZ := jh (ja H2.out.1 H2.out.2.1)
     go_upto_region 24 with fail
     have HUP := jh (less_up (a := c.last) (b := c.last) rfl (.inr ⟨rfl, Int.le_refl _⟩))
     obtain ⟨wr, hwr⟩ : ∃ y, y = w3 := ⟨_, rfl⟩
     subst hwr
     have hup : lessS c.last c.last = false := HUP.out
     have hn2 : (N : Int) ≤ sizePs (l.take (k + 1)) := by omega
     obtain ⟨wz, hwz⟩ : ∃ y, y = wr := ⟨_, rfl⟩
     subst hwz
     have z1 := On.cell HZ.out.1.c1
     have hzl := lt_of_cell HZ.out.1.c1
     have HWS := jh (fun W (hW : ∃ d : Wd (On wz), W = d.w) => (show Blk W sb 40 [.int .i64 c.last.wall, .int .i64 c.last.logic, .int .i64 c.last.node] from by
      obtain ⟨d, rfl⟩ := hW
      exact HZ.out.2.ext d.ok))
     refine wp_region_mix (.seg [0, 1, 2, 3, 5] 4 (.seg [] 6 (.leaf []))) (fun w' => ∃ d : Wd (On wz), w' = d.w) (by kernel_rfl) (by kernel_rfl) (fun _ _ d _ _ h => by cases d <;> exact h) (ClsW.mk (jb _ _).drew) ?_
     unfold wpMix; simp only [pick, j1, j2, j3, j4]
     (repeat (show wpQuiet _ _ _ _ (_ :: _) _; first | (refine wpQuiet_load_blk rfl rfl rfl HWS.out Tryz.underlying40 rfl (by kernel_rfl) ?_; go_simp) | go_big_quiet_step (fail))); refine qn ?_
     have HD := jh (HZ.out.1.ext (jb _ _).drew)
     have CN := clkNow_any gc c wz.drew HD.out.ck (by rw [HD.out.node]; rfl)
     unfold Stamp.cells at CN
     go_wp2_with fail
     refine CN.mono ?_
     clear CN
     rintro e y1 ⟨rfl, hb1⟩
     have HY := jh (HD.out.ext hb1)
     have hbz1 : Below wz.heap.size wz y1 := ((jb _ _).drew).tr hb1
     have CL := rLess_any c.last c.last y1
     clear hb1
     go_wp2_with fail
     (refine segw (D := On wz) (hbz1) ?_; unfold wpMix; simp only [pick, j1, j2, j3, j4]; (repeat (show wpQuiet _ _ _ _ (_ :: _) _; go_big_quiet_step (fail))); refine qn ?_)
     go_wp2_with fail
     refine CL.mono ?_
     clear CL
     rintro e y2 ⟨rfl, hb2⟩
     have HY2 := jh (HY.out.ext hb2)
     have hbz2 := hbz1.tr hb2
     rw [hup]
     clear hb2
     go_wp2_with fail
     (refine segw (D := On wz) (hbz2) ?_; unfold wpMix; simp only [pick, List.filterMap_nil]; (repeat (show wpQuiet _ _ _ _ (_ :: _) _; go_big_quiet_step (fail))); refine qn ?_)
     clear HZ HD HY HWS z1 hzl hbz1 hbz2
     go_wp2_with fail
     go_round
     case rel => exact ⟨k + 1, _, _, _, N, by omega, by go_num, by omega, HY2.out⟩
     case measure => simp [intOf]; omega
  ·have hkn : k = l.length := by omega
   subst hkn
   have HB := jh hQ.below
   clear hQ
   go_wp2_with fail
   refine (CA.out wr HB.out).mono ?_
   rintro e w4 ⟨rfl, hb4⟩
   have HB4 := jh (HB.out.tr hb4)
   clear hb4
   go_wp2_with fail
   go_ret
   exact ⟨rfl, HB4.out⟩
end Go.Proofs.YtcmjgghkmdbphaaGreatDoor
