/- state.decide. rec.Check. state.Apply: a gone receiver, a bad record, kind 3. tables that answer alike; a table made anew (plain law). what putting a batch in does (plain law). -/
import Derived.Test.YtcmjgghkmdbphaaGreatDoorS18
import Derived.Test.YtcmjgghkmdbphaaGreatDoorS16
import Derived.Test.YtcmjgghkmdbphaaGreatDoorS08
import Derived.Test.YtcmjgghkmdbphaaGreatDoorS06
import Derived.Test.YtcmjgghkmdbphaaGreatDoorS05
set_option maxRecDepth 20000
set_option maxHeartbeats 25600000
namespace Go.Proofs.YtcmjgghkmdbphaaGreatDoor
open Go.RowKit
structure DcD (g gb : Nat) (t : Tx) (u : Value) (W : World) : Prop where
 c7 : W.cell? ⟨gb, 7, none⟩ = some (.int .i64 t.node)
 c8 : W.cell? ⟨gb, 8, none⟩ = some (.int .i64 t.life)
 c9 : W.cell? ⟨gb, 9, none⟩ = some (.int .i64 t.num)
 d8 : W.cell? ⟨g, 8, none⟩ = some u
section
variable {g gb : Nat} {t : Tx} {u : Value}
theorem DcD.a7 (d : Wd (DcD g gb t u)) : d.w.cell? ⟨gb, 7, none⟩ = some (.int .i64 t.node) := d.ok.c7
theorem DcD.a8 (d : Wd (DcD g gb t u)) : d.w.cell? ⟨gb, 8, none⟩ = some (.int .i64 t.life) := d.ok.c8
theorem DcD.a9 (d : Wd (DcD g gb t u)) : d.w.cell? ⟨gb, 9, none⟩ = some (.int .i64 t.num) := d.ok.c9
theorem DcD.b8 (d : Wd (DcD g gb t u)) : d.w.cell? ⟨g, 8, none⟩ = some u := d.ok.d8
theorem DcD.of {W : World} {ty ty' : TypeId} {r : Rec} {nA pA sA : Option Addr} {nc pc sc : Nat} {s : St} {v : SV} (hB : Blk W gb ty (r.cells nA nc pA pc sA sc)) (hS : Blk W g ty' (s.cells v)) : DcD g gb r.tx v.decided W :=
 ⟨hB.cell 7, hB.cell 8, hB.cell 9, hS.cell 8⟩
end
theorem decide_any (g : Nat) (s : St) (r : Rec) (nA pA sA : Option Addr) (nc pc sc : Nat) (P Q : Nat → Prop) (w : World) (h : StAt w P g s) (hg : ¬ P g) (hF : Fit s)
 (hr : RecAt w Q r nA nc pA pc sA sc) (hQ : ¬ Q g) (hT : Tabs w) (h2 : 2 ≤ g) :
 Calls Tryz.prog 91 #[ptrV g, .agg (r.cells nA nc pA pc sA sc).toArray] w (StOut w P g (decideS s r)) := by
 have hgl := h.lt
 have HH := jh (ja h (ja hg (ja hF (ja hr (ja hQ hT)))))
 clear h hg hF hr hQ hT
 have hb1 := (jb w.heap.size w).al (.cells (r.cells nA nc pA pc sA sc).toArray 46)
 have B0 := Blk.new w 46 (r.cells nA nc pA pc sA sc)
 have hs1 : (w.alloc (.cells (r.cells nA nc pA pc sA sc).toArray 46)).heap.size = w.heap.size + 1 := by simp
 unfold ptrV
 go_enter Tryz.func91, Tryz.ntmps91
 go_upto_region 1 with fail
 refine forget (M := fun W => Code.wp _ _ _ _ W) (fun W => Below w.heap.size w W ∧ Blk W w.heap.size 46 (r.cells nA nc pA pc sA sc) ∧ W.heap.size = w.heap.size + 1) ⟨hb1, B0, hs1⟩ ?_
 clear B0 hb1 hs1
 rintro w1 ⟨hb1, B0, hs1⟩
 obtain ⟨v, hB, hI⟩ := HH.out.1
 have HB := jh (ja hB hI)
 obtain ⟨LA, hMV, hrep, hlA⟩ := hI.held.mapV
 obtain ⟨LD, hMD, hrepD, hlD⟩ := hI.decided.mapV
 have hho := held_of hrep r.tx
 rw [← hlA] at hho
 have y6 := On.cell ((hB.ext hb1).cell 6 : w1.cell? ⟨g, 6, none⟩ = some v.held)
 have z7 := On.cell (B0.cell 7 : w1.cell? ⟨w.heap.size, 7, none⟩ = some (.int .i64 r.tx.node))
 have z8 := On.cell (B0.cell 8 : w1.cell? ⟨w.heap.size, 8, none⟩ = some (.int .i64 r.tx.life))
 have z9 := On.cell (B0.cell 9 : w1.cell? ⟨w.heap.size, 9, none⟩ = some (.int .i64 r.tx.num))
 have HMV := jh (fun (W : World) (hW : ∃ d : Wd (On w1), W = d.w) => (show MapV W v.held (LA.map fun p => (p.1, aggV p.2.2)) from by obtain ⟨d, rfl⟩ := hW; exact hMV.ext (hb1.tr d.ok)))
 have HMD := jh (fun (W : World) (hW : Below w.heap.size w W) => (show MapV W v.decided (LD.map fun p => (p.1, oneV p.2.2)) from hMD.ext hW))
 have H1 := jh (ja hb1 (ja B0 hs1))
 have HREP := jh (ja hrep (ja hlA (ja hrepD (ja hlD hMV))))
 clear hB hI hMV hMD hb1 B0 hs1 hrep hlA hrepD hlD
 refine wp_region_mix (.seg [0, 1, 2, 3, 4, 5, 6, 7, 8, 9] 10 (.seg [] 11 (.leaf [12]))) (fun w' => ∃ d : Wd (On w1), w' = d.w) (by kernel_rfl) (by kernel_rfl) (fun _ _ d _ _ h => by cases d <;> exact h) (ClsW.mk (jb _ _).drew) ?_
 unfold wpMix; simp only [pick, j1, j2, j3, j4]
 rcases hho with ⟨hg0, hq⟩ | ⟨hh, qA, qc, uA, uc, hg1, hq, k1, k2, k3, k4, k5⟩
 ·have HS := jh (show decideS s r = (s, 4) from by unfold decideS; rw [hg0])
  clear hg0
  (repeat (show wpQuiet _ _ _ _ (_ :: _) _; first | (refine wpQuiet_lookup_v none rfl (.tmp 11) (.tmp 13) 172 true rfl Tryz.underlying172 rfl HMV.out r.tx rfl hq _ zero_held ?_; simp only [Option.getD_none, Option.isSome_none, if_true]; go_simp) | go_big_quiet_step (fail))); refine qn ?_
  go_wp2_with fail
  (refine segw (D := On w1) (by unfold On; repeat (with_reducible first | assumption | exact jb _ _ | refine Below.al ?_ _ | refine Below.drew ?_ | apply Below.st1)) ?_; unfold wpMix; simp only [pick, j1, j2, j3, j4]; (repeat (show wpQuiet _ _ _ _ (_ :: _) _; go_big_quiet_step (fail))); refine qn ?_)
  go_wp2_with fail
  (refine segw (D := On w1) (by unfold On; repeat (with_reducible first | assumption | exact jb _ _ | refine Below.al ?_ _ | refine Below.drew ?_ | apply Below.st1)) ?_; unfold wpMix; simp only [pick, j1, j2, j3, j4]; (repeat (show wpQuiet _ _ _ _ (_ :: _) _; go_big_quiet_step (fail))); refine qn ?_)
  go_wp2_with fail
  go_ret
  unfold StOut
  rw [HS.out]
  have hb4 : Below w.heap.size w ((w1.alloc (.cells #[.int .i64 0, .int .i64 0, .int .i64 0, .string ⟨#[]⟩, .slice none 0 0, .int .i64 0, .int .i64 0, .int .i64 0, .slice none 0 0] 192)).drew) := (H1.out.1.al _).drew
  exact ⟨rfl, ⟨v, HB.out.1.ext hb4, (HB.out.2.same (js hb4)).mono fun k hk => .inl hk⟩, jo hb4⟩
 ·obtain ⟨m, hvm, hMm⟩ : ∃ m, v.held = .map (some m) ∧ MapAt txE w m (LA.map fun p => (p.1, aggV p.2.2)) := by
   rcases HREP.out.2.2.2.2 with ⟨_, e⟩ | ⟨m, e, hM⟩
   ·rw [e] at hq; cases hq
   ·exact ⟨m, e, hM⟩
  have HS := jh (show decideS s r = (if r.yes then putS { s with held := delA r.tx s.held, decided := putA r.tx 1 s.decided } hh.batch hh.firsts r.stamp else { s with held := delA r.tx s.held, decided := putA r.tx 1 s.decided }, 0) from by unfold decideS; rw [hg1])
  have HK := jh (ja k2 (ja k4 (ja k5 (ja (HH.out.2.2.1.held _ (getA_mem hg1)) (ja hvm hMm)))))
  clear hg1 k1 k2 k3 k4 k5 hvm hMm
  (repeat (show wpQuiet _ _ _ _ (_ :: _) _; first | (refine wpQuiet_lookup_v _ rfl (.tmp 11) (.tmp 13) 172 true rfl Tryz.underlying172 rfl HMV.out r.tx rfl hq _ zero_held ?_; simp only [Option.getD_some, Option.isSome_some, if_true]; unfold Held.cellsV; go_simp) | go_big_quiet_step (fail))); refine qn ?_
  go_wp2_with fail
  (refine segw (D := On w1) (by unfold On; repeat (with_reducible first | assumption | exact jb _ _ | refine Below.al ?_ _ | refine Below.drew ?_ | apply Below.st1)) ?_; unfold wpMix; simp only [pick, j1, j2, j3, j4]; (repeat (show wpQuiet _ _ _ _ (_ :: _) _; go_big_quiet_step (fail))); refine qn ?_)
  go_wp2_with fail
  (refine segw (D := On w1) (by unfold On; repeat (with_reducible first | assumption | exact jb _ _ | refine Below.al ?_ _ | refine Below.drew ?_ | apply Below.st1)) ?_; unfold wpMix; simp only [pick, j1, j2, j3, j4]; (repeat (show wpQuiet _ _ _ _ (_ :: _) _; go_big_quiet_step (fail))); refine qn ?_)
  go_upto_region 4 with fail
  have B4 := (Blk.new w1 192 (hh.cellsV qA qc uA uc)).drew
  have h14 : Below w1.heap.size w1 ((w1.alloc (.cells #[.int .i64 hh.tx.node, .int .i64 hh.tx.life, .int .i64 hh.tx.num, .string hh.batch.key, .slice qA hh.batch.puts.length qc, .int .i64 hh.stamp.wall, .int .i64 hh.stamp.logic, .int .i64 hh.stamp.node, .slice uA hh.firsts.length uc] 192)).drew) := by repeat (with_reducible first | assumption | exact jb _ _ | refine Below.al ?_ _ | refine Below.drew ?_ | apply Below.st1)
  unfold Held.cellsV at B4
  generalize hw4 : ((w1.alloc (.cells #[.int .i64 hh.tx.node, .int .i64 hh.tx.life, .int .i64 hh.tx.num, .string hh.batch.key, .slice qA hh.batch.puts.length qc, .int .i64 hh.stamp.wall, .int .i64 hh.stamp.logic, .int .i64 hh.stamp.node, .slice uA hh.firsts.length uc] 192)).drew) = w4 at *
  have hs4 : w4.heap.size = w1.heap.size + 1 := by rw [← hw4]; show (w1.alloc _).heap.size = _; simp
  clear hw4 hq y6 z7 z8 z9
  have h14d : Below w1.heap.size w1 w4.drew := h14.drew
  have hw4 := H1.out.1.tr h14d
  have D4 : DcD g w.heap.size r.tx v.decided w4.drew := .of (H1.out.2.1.ext h14d) (HB.out.1.ext hw4)
  haveI : Nonempty (Wd (DcD g w.heap.size r.tx v.decided)) := ⟨⟨_, D4⟩⟩
  have a7 := DcD.a7 (g := g) (gb := w.heap.size) (t := r.tx) (u := v.decided)
  have a8 := DcD.a8 (g := g) (gb := w.heap.size) (t := r.tx) (u := v.decided)
  have a9 := DcD.a9 (g := g) (gb := w.heap.size) (t := r.tx) (u := v.decided)
  have b8 := DcD.b8 (g := g) (gb := w.heap.size) (t := r.tx) (u := v.decided)
  have x6 : w4.drew.cell? ⟨g, 6, none⟩ = some (.map (some m)) := by rw [← HK.out.2.2.2.2.1]; exact (HB.out.1.ext hw4).cell 6
  have H4 := jh (ja h14d (ja hw4 (ja B4.drew D4)))
  clear h14 h14d hw4 B4
  refine wp_region_mix (.seg [0, 1, 2, 3, 4, 6, 7, 9, 10, 11, 12, 13, 14] 5 (.seg [] 8 (.seg [] 15 (.seg [16, 17] 18 (.seg [] 19 (.last [20] 21)))))) (fun w' => ∃ d : Wd (DcD g w.heap.size r.tx v.decided), w' = d.w) (by kernel_rfl) (by kernel_rfl) (fun _ _ d _ _ h => by cases d <;> exact h) (ClsW.mk (D := DcD g w.heap.size r.tx v.decided) D4) ?_
  unfold wpMix; simp only [pick, j1, j2, j3, j4]
  (repeat (show wpQuiet _ _ _ _ (_ :: _) _; go_big_quiet_step (fail))); refine qn ?_
  go_wp2_with fail
  dsimp only [wpList, SegQ]
  refine ⟨fun w' => ∃ d : Wd (DcD g w.heap.size r.tx v.decided), w' = d.w, ClsW.mk (D := DcD g w.heap.size r.tx v.decided) D4, fun _ h => h, ?_⟩
  unfold wpMix; simp only [pick, j1, j2, j3, j4]
  (repeat (show wpQuiet _ _ _ _ (_ :: _) _; go_big_quiet_step (fail))); refine qn ?_
  have CA := withoutH_any m _ r.tx w4.drew (HK.out.2.2.2.2.2.ext H4.out.2.1)
  unfold txE at CA
  go_wp2_with fail
  refine CA.mono ?_
  clear CA x6 D4
  rintro e w5 ⟨⟨m5, rfl, hm5, hM5⟩, hb5⟩
  have h15 := H4.out.1.tr hb5
  have hw5 := H4.out.2.1.tr hb5
  have D5 : DcD g w.heap.size r.tx v.decided w5 := .of (H1.out.2.1.ext h15) (HB.out.1.ext hw5)
  go_wp2_with fail
  dsimp only [wpList, SegQ]
  refine ⟨fun w' => ∃ d : Wd (DcD g w.heap.size r.tx v.decided), w' = d.w, ClsW.mk (D := DcD g w.heap.size r.tx v.decided) D5, fun _ h => h, ?_⟩
  unfold wpMix; simp only [pick, j1, j2, j3, j4]
  (repeat (show wpQuiet _ _ _ _ (_ :: _) _; go_big_quiet_step (fail))); refine qn ?_
  have CB := withI_any v.decided _ r.tx 1 w5 (HMD.out w5 hw5)
  unfold txE at CB
  go_wp2_with fail
  refine CB.mono ?_
  clear CB D5
  rintro e w6 ⟨⟨m6, rfl, hm6, hM6⟩, hb6⟩
  have h16 := h15.tr hb6
  have hw6 := hw5.tr hb6
  have D6 : DcD g w.heap.size r.tx v.decided w6 := .of (H1.out.2.1.ext h16) (HB.out.1.ext hw6)
  go_wp2_with fail
  dsimp only [wpList, SegQ]
  refine ⟨fun w' => ∃ d : Wd (DcD g w.heap.size r.tx v.decided), w' = d.w, ClsW.mk (D := DcD g w.heap.size r.tx v.decided) D6, fun _ h => h, ?_⟩
  unfold wpMix; simp only [pick, j1, j2, j3, j4]
  (repeat (show wpQuiet _ _ _ _ (_ :: _) _; go_big_quiet_step (fail))); refine qn ?_
  have B6 := HB.out.1.ext hw6
  have x6 : w6.cell? ⟨g, 6, none⟩ = some v.held := B6.cell 6
  have x6f : w6.frozen? ⟨g, 6, none⟩ = false := B6.frozen 6
  have B7 := B6.set_ 6 (.map (some m5))
  have O7 : Only (fun k => k = g) w6 (w6.setCell ⟨g, 6, none⟩ (.map (some m5))) := Only.set_ (F := fun k => k = g) rfl _
  have D7 : DcD g w.heap.size r.tx v.decided (w6.setCell ⟨g, 6, none⟩ (.map (some m5))) := ⟨((H1.out.2.1.ext h16).only O7 (fun e => by have : w.heap.size = g := e; omega)).cell 7, ((H1.out.2.1.ext h16).only O7 (fun e => by have : w.heap.size = g := e; omega)).cell 8, ((H1.out.2.1.ext h16).only O7 (fun e => by have : w.heap.size = g := e; omega)).cell 9, B7.cell 8⟩
  have H7 := jh (ja B7 (ja O7 (ja D7 (ja h16 (ja hw6 (hb5.tr hb6))))))
  have HM := jh (ja hm5 (ja hM5 (ja hm6 (ja hM6 (ja h15.size (ja hb6 h16.size))))))
  clear B7 O7 D7 D6 h16 hw6 h15 hw5 hb5 hb6 hm5 hM5 hm6 hM6 B6
  go_wp2_with fail
  dsimp only [wpList, SegQ]
  refine ⟨fun w' => ∃ d : Wd (DcD g w.heap.size r.tx v.decided), w' = d.w, ClsW.mk (D := DcD g w.heap.size r.tx v.decided) H7.out.2.2.1, fun _ h => h, ?_⟩
  unfold wpMix; simp only [pick, j1, j2, j3, j4]
  (repeat (show wpQuiet _ _ _ _ (_ :: _) _; go_big_quiet_step (fail))); refine qn ?_
  clear x6 x6f
  go_wp2_with fail
  dsimp only [wpList, SegQ]
  refine ⟨fun w' => ∃ d : Wd (DcD g w.heap.size r.tx v.decided), w' = d.w, ClsW.mk (D := DcD g w.heap.size r.tx v.decided) H7.out.2.2.1, fun _ h => h, ?_⟩
  unfold wpMix; simp only [pick, j1, j2, j3, j4]
  (repeat (show wpQuiet _ _ _ _ (_ :: _) _; go_big_quiet_step (fail))); refine qn ?_
  have x8 : (w6.setCell ⟨g, 6, none⟩ (.map (some m5))).cell? ⟨g, 8, none⟩ = some v.decided := H7.out.1.cell 8
  have x8f : (w6.setCell ⟨g, 6, none⟩ (.map (some m5))).frozen? ⟨g, 8, none⟩ = false := H7.out.1.frozen 8
  have B8 : Blk ((w6.setCell ⟨g, 6, none⟩ (.map (some m5))).setCell ⟨g, 8, none⟩ (.map (some m6))) g 176 (St.cells { s with held := delA r.tx s.held, decided := putA r.tx 1 s.decided } { v with held := .map (some m5), decided := .map (some m6) }) := H7.out.1.set_ 8 (.map (some m6))
  have O8 : Only (fun k => k = g) w6 ((w6.setCell ⟨g, 6, none⟩ (.map (some m5))).setCell ⟨g, 8, none⟩ (.map (some m6))) := H7.out.2.1.tr (Only.set_ (F := fun k => k = g) rfl _)
  have H8 := jh (ja B8 O8)
  clear B8 O8
  go_wp2_with fail
  dsimp only [wpList, SegQ]
  generalize hw8 : (w6.setCell ⟨g, 6, none⟩ (.map (some m5))).setCell ⟨g, 8, none⟩ (.map (some m6)) = w8 at *
  clear hw8 x8 x8f a7 a8 a9 b8
  obtain ⟨B8, O8⟩ := H8.out
  obtain ⟨hm5, hM5, hm6, hM6, hz5, hb6, hz6⟩ := HM.out
  obtain ⟨_, _, _, h16, hw6, h46⟩ := H7.out
  have hO : Only (· = g) w w8 := (jo hw6).tr O8
  have hzd : w4.drew.heap.size = w4.heap.size := rfl
  have hz1 := H1.out.2.2
  have hz68 := O8.size
  have hI8 := (HB.out.2.same (Same.of_only hO fun k hk e => HH.out.2.1 (e ▸ hk))).mono (Q := fun k => P k ∨ w.heap.size ≤ k) fun k hk => .inl hk
  have hst8 : StAt w8 (fun k => P k ∨ w.heap.size ≤ k) g { s with held := delA r.tx s.held, decided := putA r.tx 1 s.decided } := by
   have hnd := HB.out.2.held.1
   have hndD := HB.out.2.decided.1
   refine ⟨_, B8, ⟨hI8.fit, hI8.ring, hI8.table, ?_, hI8.outcomes, ?_, hI8.frozen, hI8.log⟩⟩
   ·rw [HREP.out.2.1] at hnd
    show MpAt _ _ _ _ _ _ (delA r.tx s.held)
    rw [HREP.out.2.1]
    exact MpAt.without_ hnd (fun p hp => HeldR.mono (HeldR.same (HREP.out.1 p hp) (Same.of_only hO fun k hk e => HH.out.2.1 (e ▸ hk))) fun k hk _ => .inl hk) ((hM5.ext hb6).only O8 (fun e => by have e' : m5 = g := e; omega)) (.inr (by omega))
   ·rw [HREP.out.2.2.2.1] at hndD
    show MpAt _ _ _ _ _ _ (putA r.tx 1 s.decided)
    rw [HREP.out.2.2.2.1]
    exact MpAt.with_ (cs := [.int .i64 1]) hndD (fun p hp => IntR.mono (IntR.same (HREP.out.2.2.1 p hp) (Same.of_only hO fun k hk e => HH.out.2.1 (e ▸ hk))) fun k hk _ => .inl hk) (hM6.only O8 (fun e => by have e' : m6 = g := e; omega)) ⟨rfl, by constructor <;> omega⟩ (.inr (by omega))
  have hgn : ¬ (P g ∨ w.heap.size ≤ g) := fun e => by
   rcases e with e | e
   ·exact HH.out.2.1 e
   ·omega
  have BR := (H1.out.2.1.ext h16).only O8 (fun e => by have e' : w.heap.size = g := e; omega)
  have BH := (H4.out.2.2.1.ext h46).only O8 (fun e => by have e' : w1.heap.size = g := e; omega)
  have x3 : w8.cell? ⟨w.heap.size, 3, none⟩ = some (.bool r.yes) := BR.cell 3
  have HX := jh (ja hst8 (ja hO (ja BR BH)))
  clear hst8 hO BR BH hI8 B8 O8 hM5 hM6 hb6 h16 hw6 h46 hm5 hm6
  cases hy : r.yes
  ·rw [hy] at x3
   have HS2 := jh (show decideS s r = ({ s with held := delA r.tx s.held, decided := putA r.tx 1 s.decided }, 0) from by rw [HS.out, hy]; rfl)
   clear hy
   go_wp2_with fail
   go_ret
   unfold StOut
   rw [HS2.out]
   exact ⟨rfl, HX.out.1, HX.out.2.1⟩
  ·rw [hy] at x3
   have HS2 := jh (show decideS s r = (putS { s with held := delA r.tx s.held, decided := putA r.tx 1 s.decided } hh.batch hh.firsts r.stamp, 0) from by rw [HS.out, hy]; rfl)
   clear hy
   have BR := HX.out.2.2.1
   have BH := HX.out.2.2.2
   have x4 : w8.cell? ⟨w.heap.size, 4, none⟩ = some (.int .i64 r.stamp.wall) := BR.cell 4
   have x5 : w8.cell? ⟨w.heap.size, 5, none⟩ = some (.int .i64 r.stamp.logic) := BR.cell 5
   have x6 : w8.cell? ⟨w.heap.size, 6, none⟩ = some (.int .i64 r.stamp.node) := BR.cell 6
   have v3 : w8.cell? ⟨w1.heap.size, 3, none⟩ = some (.string hh.batch.key) := BH.cell 3
   have v4 : w8.cell? ⟨w1.heap.size, 4, none⟩ = some (.slice qA hh.batch.puts.length qc) := BH.cell 4
   have v8 : w8.cell? ⟨w1.heap.size, 8, none⟩ = some (.slice uA hh.firsts.length uc) := BH.cell 8
   obtain ⟨hk, hpR, hfR, hfit, _, _⟩ := HK.out
   have hsm := fun (k : Nat) (hk : P k) => (fun (e : (fun k => k = g) k) => HH.out.2.1 (e ▸ hk))
   have C := sput_any g { s with held := delA r.tx s.held, decided := putA r.tx 1 s.decided } hh.batch hh.firsts r.stamp qA uA qc uc (fun k => P k ∨ w.heap.size ≤ k) P w8 HX.out.1 hgn ⟨HH.out.2.2.1.fair.1, HH.out.2.2.1.fair.2, HH.out.2.2.1.fair.3, HH.out.2.2.1.fair.4, HH.out.2.2.1.fair.5⟩
    (hpR.2.2.same (Same.of_only HX.out.2.1 hsm) HX.out.2.1.size) (hfR.2.2.same (Same.of_only HX.out.2.1 hsm) HX.out.2.1.size) HH.out.2.1 hfit.few (fun p hp => (hfit.data p hp).1) (fun p hp => (hfit.data p hp).2) hk hfit.firsts.1 hfit.firsts.2 HH.out.2.2.2.1.stamp (HH.out.2.2.2.2.2.only HX.out.2.1 (by omega) (by omega)) h2
   unfold ptrV at C
   have HZ := jh (ja hz1 (ja hs4 (ja hzd (ja hz5 (ja hz6 hz68)))))
   clear hk hpR hfR hfit hsm BR BH hz1 hs4 hzd hz5 hz6 hz68
   go_wp2_with fail
   refine C.mono ?_
   clear C x4 x5 x6 v3 v4 v8 x3
   rintro e w9 ⟨rfl, hst9, hO9, _⟩
   have H9 := jh (ja hst9 hO9)
   clear hst9 hO9
   go_wp2_with fail
   go_ret
   unfold StOut
   rw [HS2.out]
   obtain ⟨v9, a1, a2⟩ := H9.out.1
   exact ⟨rfl, ⟨v9, a1, a2.mono fun k hk => by
    rcases hk with h | h
    ·exact h
    ·exact .inr (by have := HX.out.2.1.size; omega)⟩, HX.out.2.1.tr H9.out.2⟩
end Go.Proofs.YtcmjgghkmdbphaaGreatDoor
namespace Go.Proofs.YtcmjgghkmdbphaaGreatDoor
open Go.RowKit
theorem recCheck_any (r : Rec) (nA pA sA : Option Addr) (nc pc sc : Nat) (P : Nat → Prop) (w : World) (hr : RecAt w P r nA nc pA pc sA sc) (hF : r.Fair) (hTb : Tabs w) (h2 : 2 ≤ w.heap.size) :
 Calls Tryz.prog 87 #[.agg (r.cells nA nc pA pc sA sc).toArray] w fun e w' => e = .returned (.int .i64 (checkR r)) ∧ Below w.heap.size w w' := by
 have C := fun W (h : Below w.heap.size w W) => recEncode_any r nA pA sA nc pc sc P W (hr.ext (js h) h.size) hF (hTb.below h) (by have := h.size; omega)
 unfold Rec.cells at C ⊢
 clear hr hF hTb
 go_enter Tryz.func87, Tryz.ntmps87
 go_wp2_with fail
 refine (C _ ((jb _ _).al _)).mono ?_
 clear C
 rintro e w1 ⟨⟨v, rfl⟩, hb1⟩
 go_wp2_with fail
 go_ret
 exact ⟨rfl, ((jb _ _).al _).tr hb1⟩
end Go.Proofs.YtcmjgghkmdbphaaGreatDoor
namespace Go.Proofs.YtcmjgghkmdbphaaGreatDoor
open Go.RowKit
def apply3 (s : St) (r : Rec) : St × Int := if checkR r ≠ 0 then (s, checkR r) else commitS s r
theorem apply_3 (g : Nat) (s : St) (r : Rec) (nA pA sA : Option Addr) (nc pc sc : Nat) (P Q : Nat → Prop) (w : World) (h : StAt w P g s) (hg : ¬ P g) (hs : StFair s) (hS : Seen g s w)
 (hr : RecAt w Q r nA nc pA pc sA sc) (hQ : ¬ Q g) (hF : r.Fair) (hT : Tabs w) (h2 : 2 ≤ g) (h3 : r.kind = 3) :
 Calls Tryz.prog 19 #[ptrV g, .agg (r.cells nA nc pA pc sA sc).toArray] w (CodeOut w P g (apply3 s r)) := by
 have hgl := h.lt
 have HH := jh (ja h (ja hg (ja hs (ja hS (ja hr (ja hQ (ja hF hT)))))))
 clear h hg hs hS hr hQ hF hT
 have hb1 := (jb w.heap.size w).al (.cells (r.cells nA nc pA pc sA sc).toArray 46)
 have B0 := Blk.new w 46 (r.cells nA nc pA pc sA sc)
 have hs1 : (w.alloc (.cells (r.cells nA nc pA pc sA sc).toArray 46)).heap.size = w.heap.size + 1 := by simp
 unfold ptrV
 go_enter Tryz.func19, Tryz.ntmps19
 go_upto_region 1 with fail
 refine forget (M := fun W => Code.wp _ _ _ _ W) (fun W => Below w.heap.size w W ∧ Blk W w.heap.size 46 (r.cells nA nc pA pc sA sc) ∧ W.heap.size = w.heap.size + 1) ⟨hb1, B0, hs1⟩ ?_
 clear B0 hb1 hs1
 rintro w1 ⟨hb1, B0, hs1⟩
 obtain ⟨v, hB, hI⟩ := HH.out.1
 have C1 := gone_any g s.self w1 ((hB.ext hb1).cell 0) HH.out.2.2.2.1.self
 have C2 := recCheck_any r nA pA sA nc pc sc Q w1 (HH.out.2.2.2.2.1.ext (js hb1) hb1.size) HH.out.2.2.2.2.2.2.1 (HH.out.2.2.2.2.2.2.2.below hb1) (by omega)
 unfold ptrV at C1
 have H1 := jh (ja hb1 hs1)
 clear hB hI hb1
 go_wp2_with fail
 refine C1.mono ?_
 clear C1
 rintro e w' ⟨rfl, rfl⟩
 go_wp2_with (first
  | ((with_reducible refine wpList_load_blk rfl rfl ?_ B0 Tryz.underlying46 rfl (by kernel_rfl) ?_); · rfl)
  | fail)
 refine C2.mono ?_
 clear C2
 rintro e w2 ⟨rfl, hb2⟩
 have B2 := B0.ext hb2
 have hw2 := H1.out.1.tr hb2
 by_cases hc : checkR r = 0
 ·have HC := jh hc
  rw [hc]
  have x0 : w2.cell? ⟨w.heap.size, 0, none⟩ = some (.int .i64 r.kind) := B2.cell 0
  rw [h3] at x0
  obtain ⟨v, hB, hI⟩ := HH.out.1
  have C3 := commit_any g s r nA pA sA nc pc sc P (fun k => Q k ∧ k < w.heap.size) w2 ⟨v, hB.ext hw2, hI.same (js hw2)⟩ HH.out.2.1 HH.out.2.2.1 (HH.out.2.2.2.1.ext hw2)
   ((HH.out.2.2.2.2.1.mono fun k h h' => (⟨h, h'⟩ : Q k ∧ k < w.heap.size)).ext (js hw2) hw2.size) (fun h => HH.out.2.2.2.2.2.1 h.1) HH.out.2.2.2.2.2.2.1.puts HH.out.2.2.2.2.2.2.1.data (HH.out.2.2.2.2.2.2.2.below hw2) h2
  unfold ptrV at C3
  have H2 := jh (ja hw2 (((hB.ext hw2).cell 6).trans (hB.cell 6).symm))
  clear hc hB hI hb2 hw2 B0
  go_wp2_with (first
   | ((with_reducible refine wpList_load_blk rfl rfl ?_ B2 Tryz.underlying46 rfl (by kernel_rfl) ?_); · rfl)
   | fail)
  refine C3.mono ?_
  clear C3 x0 B2
  rintro e w3 ⟨rfl, hst, hO, h6⟩
  have H3 := jh (ja hst (ja hO h6))
  clear hst hO h6
  go_wp2_with fail
  go_ret
  unfold CodeOut
  rw [show apply3 s r = commitS s r from if_neg (by rw [HC.out]; simp)]
  obtain ⟨v', a1, a2⟩ := H3.out.1
  exact ⟨rfl, ⟨v', a1, a2.mono fun k hk => by
   rcases hk with h | h
   ·exact .inl h
   ·exact .inr (by have := H2.out.1.size; omega)⟩, (jo H2.out.1).tr H3.out.2.1, H3.out.2.2.trans H2.out.2⟩
 ·have HC := jh hc
  have hc' : (checkR r != 0) = true := bne_iff_ne.2 hc
  obtain ⟨v, hB, hI⟩ := HH.out.1
  have H3 := jh (ja (⟨v, hB.ext hw2, hI.same (js hw2)⟩ : StAt w2 P g s) (ja hw2 (((hB.ext hw2).cell 6).trans (hB.cell 6).symm)))
  clear hc hB hI hb2 hw2 B0 B2
  go_wp2_with fail
  go_ret
  unfold CodeOut
  rw [show apply3 s r = (s, checkR r) from if_pos HC.out]
  obtain ⟨v', a1, a2⟩ := H3.out.1
  exact ⟨rfl, ⟨v', a1, a2.mono fun k hk => .inl hk⟩, jo H3.out.2.1, H3.out.2.2⟩
end Go.Proofs.YtcmjgghkmdbphaaGreatDoor
namespace Go.Proofs.YtcmjgghkmdbphaaGreatDoor
open Go.RowKit
theorem sort_perm (l : List Str) : (sortS l).Perm l := List.mergeSort_perm _ _
theorem mem_sort {l : List Str} {x : Str} : x ∈ sortS l ↔ x ∈ l := (sort_perm l).mem_iff
theorem sort_nodup {l : List Str} (h : l.Nodup) : (sortS l).Nodup := (sort_perm l).nodup_iff.2 h
theorem perm_of_mem {α : Type} [DecidableEq α] {l m : List α} (hl : l.Nodup) (hm : m.Nodup) (h : ∀ x, x ∈ l ↔ x ∈ m) : l.Perm m := by
 rw [List.perm_iff_count]
 intro a
 rw [hl.count, hm.count]
 simp only [h a]
theorem goesFrom_iff (l : List Event) (v i : Int) : goesFrom l v i = true ↔ ∀ (j : Nat) (e : Event), l[j]? = some e → e.version = v + 1 + (i + j) := by
 induction l generalizing i with
 | nil => simp [goesFrom]
 | cons e l ih =>
   unfold goesFrom
   rw [Bool.and_eq_true, decide_eq_true_eq, ih]
   constructor
   ·rintro ⟨h1, h2⟩ j x hx
    cases j with
    | zero => simp at hx; subst hx; omega
    | succ j => have := h2 j x (by simpa using hx); omega
   ·intro h
    refine ⟨by have := h 0 e rfl; simpa using this, fun j x hx => ?_⟩
    have := h (j + 1) x (by simpa using hx)
    omega
theorem goes_iff (l : List Event) (v : Int) : goesB l v = true ↔ ∀ (j : Nat) (e : Event), l[j]? = some e → e.version = v + 1 + j := by
 unfold goesB; rw [goesFrom_iff]
 constructor <;> intro h j e he <;> have := h j e he <;> omega
def keyFit (ev : List Event) (k : Known) : Prop := k.first ≤ ev.length ∧ (ev.map Event.stamp).getD (k.first - 1).toNat zeroStamp = k.stamp
theorem metK_zero {l : List Known} {k : Str} : metK l k = 0 ↔ ∀ x ∈ l, x.key ≠ k := by
 unfold metK
 rw [List.length_eq_zero_iff, List.filter_eq_nil_iff]
 simp
theorem keysB_iff (ev : List Event) (l r : List Known) : keysB ev l r = true ↔ (∀ k ∈ r, keyFit ev k) ∧ (r.map Known.key).Nodup ∧ ∀ k ∈ r, ∀ x ∈ l, x.key ≠ k.key := by
 induction r generalizing l with
 | nil => simp [keysB]
 | cons k r ih =>
   unfold keysB
   simp only [Bool.and_eq_true, decide_eq_true_eq, ih, metK_zero, List.mem_cons, List.map_cons, List.nodup_cons, List.mem_append, List.mem_map, not_exists, not_and]
   constructor
   ·rintro ⟨h1, h2, h3, h4, h5, h6⟩
    refine ⟨?_, ⟨?_, h5⟩, ?_⟩
    ·rintro x (rfl | hx)
     ·exact ⟨h2, h3⟩
     ·exact h4 x hx
    ·intro x hx e
     exact h6 x hx k (.inr (.inl rfl)) e.symm
    ·rintro x (rfl | hx) y hy
     ·exact h1 y hy
     ·exact h6 x hx y (.inl hy)
   ·rintro ⟨h1, ⟨h2, h3⟩, h4⟩
    refine ⟨h4 k (.inl rfl), (h1 k (.inl rfl)).1, (h1 k (.inl rfl)).2, fun x hx => h1 x (.inr hx), h3, ?_⟩
    rintro x hx y (hy | rfl | hy)
    ·exact h4 x (.inr hx) y hy
    ·exact fun e => h2 x hx e.symm
    ·cases hy
structure TS.Ok (n : Str) (s : TS) : Prop where
 name : nameB n = true
 full : s.events ≠ []
 evs : ∀ e ∈ s.events, okE n e = true
 goes : ∀ (j : Nat) (e : Event), s.events[j]? = some e → e.version = j + 1
 keys : ∀ p ∈ s.keys, p.2.key = p.1 ∧ knownB p.2 = true ∧ keyFit s.events p.2
 nd : (s.keys.map (·.1)).Nodup
structure Tab.Ok (T : Tab) : Prop where
 nd : (T.map (·.1)).Nodup
 each : ∀ p ∈ T, p.2.Ok p.1
theorem getD_of {α : Type} {o : Option α} {a d : α} (h : o = some a) : o.getD d = a := by rw [h]; rfl
theorem mem_keys {s : TS} {n : Str} (h : s.Ok n) {k : Known} : k ∈ (streamOf n s).keys ↔ (k.key, k) ∈ s.keys := by
 unfold streamOf
 simp only [List.mem_map, mem_sort]
 constructor
 ·rintro ⟨x, ⟨p, hp, rfl⟩, rfl⟩
  rw [getD_of (getA_of_mem h.nd (show (p.1, p.2) ∈ s.keys from hp))]
  rw [(h.keys p hp).1]; exact hp
 ·intro hk
  exact ⟨k.key, ⟨_, hk, rfl⟩, getD_of (getA_of_mem h.nd hk)⟩
theorem keys_fst {s : TS} {n : Str} (h : s.Ok n) : (streamOf n s).keys.map Known.key = sortS (s.keys.map (·.1)) := by
 unfold streamOf
 simp only [List.map_map]
 conv => rhs; rw [← List.map_id (sortS (s.keys.map (·.1)))]
 apply List.map_congr_left
 intro x hx
 rw [mem_sort] at hx
 obtain ⟨p, hp, rfl⟩ := List.mem_map.1 hx
 simp only [Function.comp, id]
 rw [getD_of (getA_of_mem h.nd (show (p.1, p.2) ∈ s.keys from hp))]
 exact (h.keys p hp).1
theorem TS.Ok.whole {s : TS} {n : Str} (h : s.Ok n) : wholeB (streamOf n s) = true := by
 unfold wholeB streamB
 simp only [Bool.and_eq_true, decide_eq_true_eq, List.all_eq_true]
 refine ⟨⟨h.name, h.evs, fun k hk => (h.keys _ ((mem_keys h).1 hk)).2.1⟩, h.full, ?_, ?_⟩
 ·rw [goes_iff]; intro j e he; have := h.goes j e he; omega
 ·rw [keysB_iff]
  refine ⟨fun k hk => (h.keys _ ((mem_keys h).1 hk)).2.2, ?_, fun _ _ x hx => by cases hx⟩
  rw [keys_fst h]; exact sort_nodup h.nd
theorem foldl_putA_out {α κ β : Type} [DecidableEq κ] (f : α → κ) (v : α → β) (l : List α) (m : List (κ × β)) {x : κ} (h : x ∉ l.map f) : getA x (l.foldl (fun m a => putA (f a) (v a) m) m) = getA x m := by
 induction l generalizing m with
 | nil => rfl
 | cons a l ih =>
   simp only [List.map_cons, List.mem_cons, not_or] at h
   rw [List.foldl_cons, ih _ h.2, getA_put, if_neg h.1]
theorem foldl_putA_in {α κ β : Type} [DecidableEq κ] (f : α → κ) (v : α → β) (l : List α) (m : List (κ × β)) (hn : (l.map f).Nodup) {a : α} (h : a ∈ l) : getA (f a) (l.foldl (fun m a => putA (f a) (v a) m) m) = some (v a) := by
 induction l generalizing m with
 | nil => cases h
 | cons b l ih =>
   simp only [List.map_cons, List.nodup_cons] at hn
   rw [List.foldl_cons]
   rcases List.mem_cons.1 h with rfl | h
   ·rw [foldl_putA_out f v l _ hn.1, getA_put, if_pos rfl]
   ·exact ih _ hn.2 h
theorem foldl_putA_nd {α κ β : Type} [DecidableEq κ] (f : α → κ) (v : α → β) (l : List α) (m : List (κ × β)) (hn : (m.map (·.1)).Nodup) : ((l.foldl (fun m a => putA (f a) (v a) m) m).map (·.1)).Nodup := by
 induction l generalizing m with
 | nil => exact hn
 | cons a l ih => rw [List.foldl_cons]; exact ih _ (putA_nodup hn)
theorem foldl_putA_mem {α κ β : Type} [DecidableEq κ] (f : α → κ) (v : α → β) (l : List α) (m : List (κ × β)) {p : κ × β} (h : p ∈ l.foldl (fun m a => putA (f a) (v a) m) m) : p ∈ m ∨ ∃ a ∈ l, p = (f a, v a) := by
 induction l generalizing m with
 | nil => exact .inl h
 | cons a l ih =>
   rw [List.foldl_cons] at h
   rcases ih _ h with h | ⟨b, hb, e⟩
   ·rcases putA_mem h with h | h | h
    ·exact .inr ⟨a, by simp, h⟩
    ·exact .inl h.1
    ·exact .inl h
   ·exact .inr ⟨b, by simp [hb], e⟩
def tsOf (s : Stream) : TS := ⟨s.events, keysOf s.keys⟩
theorem tsOf_ok {s : Stream} (h : wholeB s = true) : (tsOf s).Ok s.name := by
 unfold wholeB streamB at h
 simp only [Bool.and_eq_true, decide_eq_true_eq, List.all_eq_true, goes_iff, keysB_iff] at h
 obtain ⟨⟨h1, h2, h3⟩, h4, h5, h6, h7, _⟩ := h
 refine ⟨h1, h4, h2, fun j e he => by have := h5 j e he; omega, fun p hp => ?_, foldl_putA_nd _ _ _ _ (by simp)⟩
 rcases foldl_putA_mem Known.key (fun k => k) s.keys [] hp with hp | ⟨k, hk, rfl⟩
 ·cases hp
 ·exact ⟨rfl, h3 k hk, h6 k hk⟩
theorem getA_keysOf {l : List Known} (hn : (l.map Known.key).Nodup) {k : Known} (h : k ∈ l) : getA k.key (keysOf l) = some k := foldl_putA_in Known.key (fun k => k) l [] hn h
theorem getA_keysOf_none {l : List Known} {x : Str} (h : x ∉ l.map Known.key) : getA x (keysOf l) = none := foldl_putA_out Known.key (fun k => k) l [] h
def TS.Like (s s' : TS) : Prop := s.events = s'.events ∧ ∀ k, getA k s.keys = getA k s'.keys
def OptLike : Option TS → Option TS → Prop
 | none, none => True
 | some s, some s' => s.Like s'
 | _, _ => False
def Tab.Like (T T' : Tab) : Prop := ∀ n, OptLike (getA n T) (getA n T')
theorem streamOf_like {n : Str} {s : TS} (h : s.Ok n) : (tsOf (streamOf n s)).Like s := by
 refine ⟨rfl, fun k => ?_⟩
 show getA k (keysOf (streamOf n s).keys) = _
 by_cases hk : k ∈ (streamOf n s).keys.map Known.key
 ·obtain ⟨x, hx, rfl⟩ := List.mem_map.1 hk
  rw [getA_keysOf (by rw [keys_fst h]; exact sort_nodup h.nd) hx, getA_of_mem h.nd ((mem_keys h).1 hx)]
 ·rw [getA_keysOf_none hk]
  rw [keys_fst h, mem_sort] at hk
  exact (getA_none.2 hk).symm
theorem TS.Like.version {T T' : Tab} (h : T.Like T') (n : Str) : versionT T n = versionT T' n := by
 have := h n
 unfold versionT
 cases h1 : getA n T <;> cases h2 : getA n T' <;> rw [h1, h2] at this
 ·exact this.elim
 ·exact this.elim
 ·exact congrArg (fun l : List Event => (l.length : Int)) this.1
theorem TS.Like.known {T T' : Tab} (h : T.Like T') (n k : Str) : knownT T n k = knownT T' n k := by
 have := h n
 unfold knownT
 cases h1 : getA n T <;> cases h2 : getA n T' <;> rw [h1, h2] at this
 ·exact this.elim
 ·exact this.elim
 ·simp only [this.2 k]
theorem like_mem {T T' : Tab} (h : T.Like T') (x : Str) : x ∈ T.map (·.1) ↔ x ∈ T'.map (·.1) := by
 have := h x
 cases h1 : getA x T <;> cases h2 : getA x T' <;> rw [h1, h2] at this
 ·rw [getA_none] at h1 h2; simp [h1, h2]
 ·exact this.elim
 ·exact this.elim
 ·exact ⟨fun _ => List.mem_map.2 ⟨_, getA_mem h2, rfl⟩, fun _ => List.mem_map.2 ⟨_, getA_mem h1, rfl⟩⟩
theorem metS_zero {l : List Stream} {n : Str} : metS l n = 0 ↔ ∀ x ∈ l, x.name ≠ n := by
 unfold metS
 rw [List.length_eq_zero_iff, List.filter_eq_nil_iff]
 simp
theorem okPut_iff (l r : List Stream) : okPut l r = true ↔ (∀ s ∈ r, wholeB s = true) ∧ (r.map Stream.name).Nodup ∧ ∀ s ∈ r, ∀ x ∈ l, x.name ≠ s.name := by
 induction r generalizing l with
 | nil => simp [okPut]
 | cons k r ih =>
   unfold okPut
   simp only [Bool.and_eq_true, decide_eq_true_eq, ih, metS_zero, List.mem_cons, List.map_cons, List.nodup_cons, List.mem_append, List.mem_map, not_exists, not_and]
   constructor
   ·rintro ⟨h1, h2, h4, h5, h6⟩
    refine ⟨?_, ⟨?_, h5⟩, ?_⟩
    ·rintro x (rfl | hx)
     ·exact h2
     ·exact h4 x hx
    ·intro x hx e
     exact h6 x hx k (.inr (.inl rfl)) e.symm
    ·rintro x (rfl | hx) y hy
     ·exact h1 y hy
     ·exact h6 x hx y (.inl hy)
   ·rintro ⟨h1, ⟨h2, h3⟩, h4⟩
    refine ⟨h4 k (.inl rfl), h1 k (.inl rfl), fun x hx => h1 x (.inr hx), h3, ?_⟩
    rintro x hx y (hy | rfl | hy)
    ·exact h4 x (.inr hx) y hy
    ·exact fun e => h2 x hx e.symm
    ·cases hy
theorem putAll_out {l : List Stream} {T : Tab} {x : Str} (h : x ∉ l.map Stream.name) : getA x (putAll l T) = getA x T := foldl_putA_out Stream.name (fun s => tsOf s) l T h
theorem putAll_in {l : List Stream} {T : Tab} (hn : (l.map Stream.name).Nodup) {s : Stream} (h : s ∈ l) : getA s.name (putAll l T) = some (tsOf s) := foldl_putA_in Stream.name (fun s => tsOf s) l T hn h
theorem putAll_ok {l : List Stream} {T : Tab} (hT : T.Ok) (h : ∀ s ∈ l, wholeB s = true) : (putAll l T).Ok := by
 refine ⟨foldl_putA_nd Stream.name (fun s => tsOf s) l T hT.nd, fun p hp => ?_⟩
 rcases foldl_putA_mem Stream.name (fun s => tsOf s) l T hp with hp | ⟨s, hs, rfl⟩
 ·exact hT.each p hp
 ·exact tsOf_ok (h s hs)
theorem Tab.Ok.nil_ : Tab.Ok [] := ⟨by simp, fun p hp => by cases hp⟩
theorem mem_take {T : Tab} (hT : T.Ok) {r : Range} {s : Stream} : s ∈ takeT T r ↔ ∃ t, getA s.name T = some t ∧ s = streamOf s.name t ∧ inR r s.name = true := by
 unfold takeT someT
 simp only [List.mem_map, List.mem_filter, mem_sort]
 constructor
 ·rintro ⟨n, ⟨⟨p, hp, rfl⟩, hr⟩, rfl⟩
  have hg := getA_of_mem hT.nd (show (p.1, p.2) ∈ T from hp)
  rw [getD_of hg]
  exact ⟨p.2, hg, rfl, hr⟩
 ·rintro ⟨t, ht, hs, hr⟩
  refine ⟨s.name, ⟨⟨_, getA_mem ht, rfl⟩, hr⟩, ?_⟩
  rw [getD_of ht]; exact hs.symm
theorem take_names (T : Tab) (r : Range) : (takeT T r).map Stream.name = someT T r := by
 unfold takeT
 rw [List.map_map]
 conv => rhs; rw [← List.map_id (someT T r)]
 exact List.map_congr_left fun x _ => rfl
theorem some_nodup {T : Tab} (hT : T.Ok) (r : Range) : (someT T r).Nodup := (sort_nodup hT.nd).sublist List.filter_sublist
theorem take_whole {T : Tab} (hT : T.Ok) (r : Range) : ∀ s ∈ takeT T r, wholeB s = true := by
 intro s hs
 obtain ⟨t, ht, he, _⟩ := (mem_take hT).1 hs
 rw [he]
 exact (hT.each _ (getA_mem ht)).whole
theorem take_okPut {T : Tab} (hT : T.Ok) (r : Range) : okPut [] (takeT T r) = true :=
 (okPut_iff _ _).2 ⟨take_whole hT r, by rw [take_names]; exact some_nodup hT r, fun _ _ x hx => by cases hx⟩
theorem hash_all (h : ∀ n, 0 ≤ hashS n ∧ hashS n < 4294967296) (n : Str) : inR allHashes n = true := by
 unfold inR Range.has allHashes
 have := h n
 simp; omega
theorem fresh_like (hh : ∀ n, 0 ≤ hashS n ∧ hashS n < 4294967296) {T : Tab} (hT : T.Ok) : (freshT T).Like T ∧ (freshT T).Ok := by
 unfold freshT putT
 rw [if_pos (take_okPut hT _)]
 refine ⟨fun n => ?_, putAll_ok Tab.Ok.nil_ (take_whole hT _)⟩
 cases h : getA n T with
 | none =>
   rw [putAll_out]
   ·exact trivial
   ·rw [take_names]
    unfold someT
    rw [List.mem_filter, mem_sort]
    exact fun hx => getA_none.1 h hx.1
 | some s =>
   have hm : streamOf n s ∈ takeT T allHashes := (mem_take hT).2 ⟨s, h, rfl, hash_all hh n⟩
   have := putAll_in (T := []) (by rw [take_names]; exact some_nodup hT _) hm
   rw [show getA n (putAll (takeT T allHashes) []) = _ from this]
   exact streamOf_like (hT.each _ (getA_mem h))
end Go.Proofs.YtcmjgghkmdbphaaGreatDoor
namespace Go.Proofs.YtcmjgghkmdbphaaGreatDoor
open Go.RowKit
theorem hashS_bd (s : Str) : 0 ≤ hashS s ∧ hashS s < 4294967296 := hash_bd s.data.toList
def evT (T : Tab) (n : Str) : List Event := match getA n T with | some s => s.events | none => []
def kyT (T : Tab) (n : Str) : List (Str × Known) := match getA n T with | some s => s.keys | none => []
theorem version_ev (T : Tab) (n : Str) : versionT T n = (evT T n).length := by
 unfold versionT evT; cases getA n T <;> rfl
theorem known_ky (T : Tab) (n k : Str) : knownT T n k = match getA k (kyT T n) with | some x => (x, true) | none => (zeroKnown, false) := by
 unfold knownT kyT; cases getA n T <;> rfl
theorem ts_getD (T : Tab) (n : Str) : (getA n T).getD ⟨[], []⟩ = ⟨evT T n, kyT T n⟩ := by
 unfold evT kyT; cases getA n T <;> rfl
theorem like_ev {T T' : Tab} (h : T.Like T') (n : Str) : evT T n = evT T' n := by
 have := h n
 unfold evT
 cases h1 : getA n T <;> cases h2 : getA n T' <;> rw [h1, h2] at this
 ·exact this.elim
 ·exact this.elim
 ·exact this.1
theorem evT_put (T : Tab) (n x : Str) (s : TS) : evT (putA n s T) x = if x = n then s.events else evT T x := by
 unfold evT; rw [getA_put]; by_cases h : x = n <;> simp [h]
theorem kyT_put (T : Tab) (n x : Str) (s : TS) : kyT (putA n s T) x = if x = n then s.keys else kyT T x := by
 unfold kyT; rw [getA_put]; by_cases h : x = n <;> simp [h]
theorem getA_addKey (k : Str) (e : Event) (m : List (Str × Known)) (x : Str) : getA x (addKey k e m) = if x = k ∧ getA k m = none ∧ k.toList ≠ [] then some ⟨k, e.version, e.stamp⟩ else getA x m := by
 unfold addKey
 by_cases h : (getA k m).isNone = true ∧ k.toList ≠ []
 ·rw [if_pos h, getA_put]
  by_cases hx : x = k
  ·rw [if_pos hx, if_pos ⟨hx, by simpa using h.1, h.2⟩]
  ·rw [if_neg hx, if_neg (fun q => hx q.1)]
 ·rw [if_neg h, if_neg (fun q => h ⟨by simp [q.2.1], q.2.2⟩)]
theorem addKey_nd {k : Str} {e : Event} {m : List (Str × Known)} (h : (m.map (·.1)).Nodup) : ((addKey k e m).map (·.1)).Nodup := by
 unfold addKey; split
 ·exact putA_nodup h
 ·exact h
theorem addKey_mem {k : Str} {e : Event} {m : List (Str × Known)} {p : Str × Known} (h : p ∈ addKey k e m) : p ∈ m ∨ (p = (k, ⟨k, e.version, e.stamp⟩) ∧ k.toList ≠ []) := by
 unfold addKey at h; split at h
 ·rename_i hc
  rcases putA_mem h with h | h | h
  ·exact .inr ⟨h, hc.2⟩
  ·exact .inl h.1
  ·exact .inl h
 ·exact .inl h
theorem getA_ok {T : Tab} (hT : T.Ok) {n : Str} {s : TS} (h : getA n T = some s) : s.Ok n := hT.each _ (getA_mem h)
theorem Tab.Ok.put {T : Tab} (hT : T.Ok) {n : Str} {s : TS} (h : s.Ok n) : Tab.Ok (putA n s T) := by
 refine ⟨putA_nodup hT.nd, fun p hp => ?_⟩
 rcases putA_mem hp with rfl | h' | h'
 ·exact h
 ·exact hT.each _ h'.1
 ·exact hT.each _ h'
theorem ev_ok {T : Tab} (hT : T.Ok) (n : Str) : (∀ e ∈ evT T n, okE n e = true) ∧ (∀ (j : Nat) (e : Event), (evT T n)[j]? = some e → e.version = j + 1) ∧ (∀ p ∈ kyT T n, p.2.key = p.1 ∧ knownB p.2 = true ∧ keyFit (evT T n) p.2) ∧ ((kyT T n).map (·.1)).Nodup := by
 unfold evT kyT
 cases h : getA n T with
 | none => simp
 | some s => have := getA_ok hT h; exact ⟨this.evs, this.goes, this.keys, this.nd⟩
theorem keyFit_app {ev l : List Event} {k : Known} (h : keyFit ev k) (h1 : 1 ≤ k.first) : keyFit (ev ++ l) k := by
 obtain ⟨h2, h3⟩ := h
 refine ⟨by rw [List.length_append]; omega, ?_⟩
 rw [← h3, List.map_append]
 have : (k.first - 1).toNat < (ev.map Event.stamp).length := by rw [List.length_map]; omega
 simp only [List.getD_eq_getElem?_getD]
 rw [List.getElem?_append_left this]
theorem append_spec {T : Tab} (hT : T.Ok) {k : Str} {e : Event} {l : List Event} (hk : keyB k = true) (ha : ∀ x ∈ e :: l, x.stream = e.stream ∧ x.stamp = e.stamp ∧ eventB x = true)
 (hg : ∀ (j : Nat) (x : Event), (e :: l)[j]? = some x → x.version = versionT T e.stream + 1 + j) :
 (appendT k (e :: l) T).2 = 0 ∧ (appendT k (e :: l) T).1.Ok ∧ (∀ n, evT (appendT k (e :: l) T).1 n = if n = e.stream then evT T n ++ (e :: l) else evT T n) ∧
 ∀ n, kyT (appendT k (e :: l) T).1 n = if n = e.stream then addKey k e (kyT T n) else kyT T n := by
 have h1 : alikeB (e :: l) = true := by
  unfold alikeB
  simp only [List.all_eq_true, Bool.and_eq_true, decide_eq_true_eq]
  exact ha
 have h2 : goesB (e :: l) (versionT T e.stream) = true := (goes_iff _ _).2 hg
 have he : appendT k (e :: l) T = (putA e.stream ⟨evT T e.stream ++ (e :: l), addKey k e (kyT T e.stream)⟩ T, 0) := by
  unfold appendT
  simp only [h1, hk, h2, ts_getD]
  simp
 rw [he]
 have hev := ev_ok hT e.stream
 have hb := eventB_iff.1 (ha e (by simp)).2.2
 have hve : e.version = versionT T e.stream + 1 := by have := hg 0 e rfl; simpa using this
 refine ⟨rfl, hT.put ⟨hb.1, by simp, ?_, ?_, ?_, addKey_nd hev.2.2.2⟩, fun n => ?_, fun n => ?_⟩
 ·intro x hx
  rcases List.mem_append.1 hx with hx | hx
  ·exact hev.1 x hx
  ·have := ha x hx
   unfold okE
   rw [this.2.2, this.1]; simp
 ·intro j x hx
  rw [List.getElem?_append] at hx
  split at hx
  ·exact hev.2.1 j x hx
  ·rename_i hj
   have := hg _ x hx
   rw [version_ev] at this
   omega
 ·intro p hp
  rcases addKey_mem hp with hp | ⟨rfl, hne⟩
  ·have := hev.2.2.1 p hp
   exact ⟨this.1, this.2.1, keyFit_app this.2.2 (knownB_iff.1 this.2.1).2.2.1⟩
  ·refine ⟨rfl, knownB_iff.2 ⟨by simpa using hne, hk, hb.2.1, hb.2.2.1, hb.2.2.2.2.2.1⟩, ?_, ?_⟩
   ·rw [version_ev] at hve; simp only [List.length_append, List.length_cons]; omega
   ·rw [version_ev] at hve
    have : (e.version - 1).toNat = (evT T e.stream).length := by omega
    simp only [this, List.getD_eq_getElem?_getD, List.getElem?_map]
    rw [List.getElem?_append_right (Nat.le_refl _)]
    simp
 ·rw [evT_put]
  by_cases h : n = e.stream <;> simp [h]
 ·rw [kyT_put]
  by_cases h : n = e.stream <;> simp [h]
structure PutOk (p : Put) : Prop where
 few : p.data.length ≤ 20
 data : ∀ s ∈ p.data, s.size ≤ 1000 ∧ validB s = true
 name : nameB p.stream = true
 full : p.data ≠ []
theorem Batch.Good.putOk {b : Batch} (h : b.Good) : ∀ p ∈ b.puts, PutOk p := fun p hp => by
 obtain ⟨⟨h1, h2⟩, h3, h4, h5, _⟩ := h.puts p hp
 exact ⟨h1, fun s hs => ⟨h2 s hs, by rw [h5] at hs; exact (List.mem_filter.1 hs).2⟩, h3, h4⟩
theorem metOf_zero {l : List Put} {n : Str} : metOf l n = 0 ↔ ∀ x ∈ l, x.stream ≠ n := by
 unfold metOf
 rw [List.length_eq_zero_iff, List.filter_eq_nil_iff]
 simp
theorem putsB_dist (l r : List Put) (h : putsB l r = true) : (r.map Put.stream).Nodup ∧ ∀ p ∈ r, ∀ x ∈ l, x.stream ≠ p.stream := by
 induction r generalizing l with
 | nil => simp
 | cons p r ih =>
   unfold putsB at h
   simp only [Bool.and_eq_true] at h
   obtain ⟨i1, i2⟩ := ih _ h.2
   have hm := metOf_zero.1 (putB_iff.1 h.1).2.1
   simp only [List.map_cons, List.nodup_cons, List.mem_map, not_exists, not_and]
   refine ⟨⟨fun x hx e => i2 x hx p (by simp) e.symm, i1⟩, fun q hq x hx => ?_⟩
   rcases List.mem_cons.1 hq with rfl | hq
   ·exact hm x hx
   ·exact i2 q hq x (by simp [hx])
theorem checkB_dist {b : Batch} (h : checkB b = 0) : (b.puts.map Put.stream).Nodup := by
 unfold checkB at h
 by_cases hm : mayB b = true
 ·unfold mayB at hm
  simp only [Bool.and_eq_true] at hm
  exact (putsB_dist _ _ hm.1).1
 ·rw [if_neg hm] at h; cases h
theorem makeP_at (p : Put) (a b : Int) (st : Stamp) (ix : Int) (d : List Str) (k n j : Nat) : (makeP p a b st ix d k n)[j]? = d[j]?.map fun x => ⟨p.stream, a + b * ((k + j : Nat) : Int), x, st, ix + ((n + j : Nat) : Int)⟩ := by
 induction d generalizing k n j with
 | nil => simp [makeP]
 | cons x d ih =>
   cases j with
   | zero => simp [makeP]
   | succ j =>
     simp only [makeP, List.getElem?_cons_succ, ih]
     rw [show k + 1 + j = k + (j + 1) by omega, show n + 1 + j = n + (j + 1) by omega]
theorem makeP_mem {p : Put} {a b : Int} {st : Stamp} {ix : Int} {d : List Str} {k n : Nat} {e : Event} (h : e ∈ makeP p a b st ix d k n) : ∃ j x, j < d.length ∧ d[j]? = some x ∧ e = ⟨p.stream, a + b * ((k + j : Nat) : Int), x, st, ix + ((n + j : Nat) : Int)⟩ := by
 obtain ⟨j, hj⟩ := List.getElem?_of_mem h
 rw [makeP_at] at hj
 obtain ⟨x, hx, rfl⟩ := Option.map_eq_some_iff.1 hj
 exact ⟨j, x, (List.getElem?_eq_some_iff.1 hx).1, hx, rfl⟩
theorem makeP_stream {p : Put} {a b : Int} {st : Stamp} {ix : Int} {d : List Str} {k n : Nat} {e : Event} (h : e ∈ makeP p a b st ix d k n) : e.stream = p.stream ∧ e.stamp = st := by
 obtain ⟨j, x, _, _, rfl⟩ := makeP_mem h; exact ⟨rfl, rfl⟩
theorem makeF_stream (l : List Put) (f : List Int) (st : Stamp) (ix : Int) (n : Nat) {e : Event} (h : e ∈ makeF l f st ix n) : (∃ p ∈ l, p.stream = e.stream) ∧ e.stamp = st := by
 induction l generalizing f n with
 | nil => cases h
 | cons p r ih =>
   unfold makeF at h
   rcases List.mem_append.1 h with h | h
   ·exact ⟨⟨p, by simp, (makeP_stream h).1.symm⟩, (makeP_stream h).2⟩
   ·obtain ⟨⟨q, hq, e1⟩, e2⟩ := ih _ _ h
    exact ⟨⟨q, by simp [hq], e1⟩, e2⟩
def firstsT (T : Tab) (l : List Put) : List Int := l.map fun p => versionT T p.stream + 1
def knowsT (T : Tab) (k : Str) (st : Stamp) (hit : Bool) (n x : Str) : Known × Bool := if x = k ∧ k.toList ≠ [] ∧ hit = true ∧ (knownT T n k).2 = false then (⟨k, versionT T n + 1, st⟩, true) else knownT T n x
theorem putP_spec {k : Str} {st : Stamp} (hk : keyB k = true) (hst : soundB st = true) : ∀ (l : List Put) (ix : Nat) (T : Tab), T.Ok → (l.map Put.stream).Nodup → (∀ p ∈ l, PutOk p) → (∀ n, versionT T n + 20 * l.length ≤ 1099511627000) → ix + sumD l ≤ 160 →
 (putP k l (makeF l (firstsT T l) st 0 ix) T).Ok ∧ (∀ n, evT (putP k l (makeF l (firstsT T l) st 0 ix) T) n = evT T n ++ (makeF l (firstsT T l) st 0 ix).filter fun e => decide (e.stream = n)) ∧
 ∀ n x, knownT (putP k l (makeF l (firstsT T l) st 0 ix) T) n x = knowsT T k st (l.any fun p => decide (p.stream = n)) n x
 | [], ix, T, hT, _, _, _, _ => by
   refine ⟨hT, fun n => by simp [putP, makeF], fun n x => ?_⟩
   unfold knowsT
   rw [if_neg (by simp)]; rfl
 | p :: r, ix, T, hT, hd, hp, hv, hs => by
   have hpo := hp p (by simp)
   simp only [List.map_cons, List.nodup_cons] at hd
   have hsd : sumD (p :: r) = p.data.length + sumD r := by simp [sumD]
   have hEq : makeF (p :: r) (firstsT T (p :: r)) st 0 ix = makeP p (versionT T p.stream + 1) 1 st 0 p.data 0 ix ++ makeF r (firstsT T r) st 0 (ix + p.data.length) := by
    rw [makeF]; rfl
   have hlen := makeP_len p (versionT T p.stream + 1) 1 st 0 p.data 0 ix
   have hM := @makeP_at p (versionT T p.stream + 1) 1 st 0 p.data 0 ix
   have hMm := fun e => @makeP_mem p (versionT T p.stream + 1) 1 st 0 p.data 0 ix e
   generalize hm : makeP p (versionT T p.stream + 1) 1 st 0 p.data 0 ix = m at hEq hlen hM hMm
   have hput : putP k (p :: r) (makeF (p :: r) (firstsT T (p :: r)) st 0 ix) T = putP k r (makeF r (firstsT T r) st 0 (ix + p.data.length)) (appendT k m T).1 := by
    rw [hEq]
    show putP k r ((m ++ _).drop p.data.length) (appendT k ((m ++ _).take p.data.length) T).1 = _
    rw [← hlen, List.drop_left, List.take_left]
   have hne : p.data.length ≠ 0 := fun e => hpo.full (List.length_eq_zero_iff.1 e)
   cases m with
   | nil => exact absurd hlen.symm (by simpa using hne)
   | cons e m =>
     have hst1 : ∀ x ∈ e :: m, x.stream = p.stream ∧ x.stamp = st ∧ eventB x = true := fun x hx => by
      obtain ⟨j, d, hj, hd2, rfl⟩ := hMm x hx
      have h1 := hv p.stream
      have h2 := (version_ev T p.stream)
      refine ⟨rfl, rfl, eventB_iff.2 ⟨hpo.name, ?_, ?_, (hpo.data d (List.mem_of_getElem? hd2)).1, (hpo.data d (List.mem_of_getElem? hd2)).2, hst, ?_, ?_⟩⟩ <;> (have := hpo.few; simp only []; omega)
     have he := hst1 e (by simp)
     obtain ⟨a1, a2, a3, a4⟩ := append_spec (k := k) (e := e) (l := m) hT hk (fun x hx => ⟨(hst1 x hx).1.trans he.1.symm, (hst1 x hx).2.1.trans he.2.1.symm, (hst1 x hx).2.2⟩) (fun j x hx => by
      rw [hM] at hx
      obtain ⟨d, _, rfl⟩ := Option.map_eq_some_iff.1 hx
      rw [he.1]; simp only []; omega)
     have hev1 : e.version = versionT T p.stream + 1 := by
      have := hM 0
      simp only [List.getElem?_cons_zero] at this
      obtain ⟨d, _, h⟩ := Option.map_eq_some_iff.1 this.symm
      rw [← h]; simp
     rw [he.1] at a3 a4
     have hvr : firstsT (appendT k (e :: m) T).1 r = firstsT T r := by
      unfold firstsT
      refine List.map_congr_left fun q hq => ?_
      rw [version_ev, version_ev, a3, if_neg]
      exact fun h => hd.1 (List.mem_map.2 ⟨q, hq, h⟩)
     have hkn : ∀ n x, knownT (appendT k (e :: m) T).1 n x = knowsT T k st (decide (p.stream = n)) n x := fun n x => by
      unfold knowsT
      simp only [known_ky]
      rw [a4]
      by_cases hn : n = p.stream
      ·subst hn
       simp only [if_true, decide_true, true_and]
       rw [getA_addKey]
       cases h1 : getA k (kyT T p.stream) with
       | none =>
         by_cases hx : x = k ∧ k.toList ≠ []
         ·rw [if_pos ⟨hx.1, rfl, hx.2⟩, if_pos ⟨hx.1, hx.2, rfl⟩, hev1, he.2.1]
         ·rw [if_neg (fun q => hx ⟨q.1, q.2.2⟩), if_neg (fun q => hx ⟨q.1, q.2.1⟩)]
       | some y =>
         rw [if_neg (fun q => by cases q.2.1), if_neg (fun q => by cases q.2.2)]
      ·rw [if_neg hn, if_neg (fun q => hn (of_decide_eq_true q.2.2.1).symm)]
     have hv1 : ∀ n, versionT (appendT k (e :: m) T).1 n + 20 * r.length ≤ 1099511627000 := fun n => by
      have h1 := hv n
      have h2 := hpo.few
      rw [version_ev] at h1 ⊢
      rw [List.length_cons] at h1
      rw [a3]; split
      ·rw [List.length_append]; omega
      ·omega
     obtain ⟨b1, b2, b3⟩ := putP_spec hk hst r (ix + p.data.length) (appendT k (e :: m) T).1 a2 hd.2 (fun q hq => hp q (by simp [hq])) hv1 (by omega)
     rw [hvr] at b1 b2 b3
     rw [hput]
     refine ⟨b1, fun n => ?_, fun n x => ?_⟩
     ·rw [b2, a3, hEq, List.filter_append]
      by_cases hn : n = p.stream
      ·rw [if_pos hn, show (e :: m).filter (fun e => decide (e.stream = n)) = e :: m from List.filter_eq_self.2 (fun x hx => by rw [(hst1 x hx).1, hn]; simp), List.append_assoc]
      ·rw [if_neg hn, show (e :: m).filter (fun e => decide (e.stream = n)) = [] from List.filter_eq_nil_iff.2 (fun x hx => by rw [(hst1 x hx).1]; simpa using fun h => hn h.symm), List.nil_append]
     ·rw [b3]
      simp only [List.any_cons]
      unfold knowsT
      simp only [hkn]
      unfold knowsT
      by_cases hn : p.stream = n
      ·have hno : (r.any fun q => decide (q.stream = n)) = false := by
        rw [List.any_eq_false]
        intro q hq
        simp only [decide_eq_true_eq]
        exact fun h => hd.1 (List.mem_map.2 ⟨q, hq, h.trans hn.symm⟩)
       simp [hn, hno]
      ·have hv2 : versionT (appendT k (e :: m) T).1 n = versionT T n := by rw [version_ev, version_ev, a3, if_neg (fun h => hn h.symm)]
       simp [hn, hv2]
end Go.Proofs.YtcmjgghkmdbphaaGreatDoor
