/- table.Append: events put behind a stream's. ring.New, state.New, gone. state: gone, New, Version, serves. state: busy of a state that holds nothing; known. -/
import Derived.Test.YtcmjgghkmdbphaaGreatDoorT10
import Derived.Deep.DeepCutAuto
import Derived.Test.YtcmjgghkmdbphaaGreatDoorT09
import Derived.Test.YtcmjgghkmdbphaaGreatDoorT08
import Derived.Test.YtcmjgghkmdbphaaGreatDoorT05
set_option maxRecDepth 20000
set_option maxHeartbeats 25600000
namespace Go.Proofs.YtcmjgghkmdbphaaGreatDoor
open Go.RowKit
theorem appendT_yes {k : Str} {l : List Event} {T : Tab} (h : (appendT k l T).2 = 0) : ∃ e0, l[0]? = some e0 ∧ alikeB l = true ∧ keyB k = true ∧ goesB l (versionT T e0.stream) = true := by
 cases l with
 | nil => cases h
 | cons e l =>
   refine ⟨e, rfl, ?_⟩
   cases h1 : alikeB (e :: l)
   ·rw [appendT_1 (.inr (.inl h1))] at h; cases h
   cases h2 : keyB k
   ·rw [appendT_1 (.inr (.inr h2))] at h; cases h
   cases h3 : goesB (e :: l) (versionT T e.stream)
   ·rw [appendT_5 rfl h1 h2 h3] at h; cases h
   exact ⟨rfl, rfl, rfl⟩
structure ApD (tb m b o : Nat) (n : Str) (W : World) : Prop where
 t : W.cell? ⟨tb, 0, none⟩ = some (.map (some m))
 e : W.cell? ⟨b, o, none⟩ = some (.string n)
theorem ApD.t' {tb m b o : Nat} {n : Str} (d : Wd (ApD tb m b o n)) : d.w.cell? ⟨tb, 0, none⟩ = some (.map (some m)) := d.ok.t
theorem ApD.e' {tb m b o : Nat} {n : Str} (d : Wd (ApD tb m b o n)) : d.w.cell? ⟨b, o, none⟩ = some (.string n) := d.ok.e
structure ApE (sb km b o : Nat) (e : Event) (W : World) : Prop where
 k : W.cell? ⟨sb, 1, none⟩ = some (.map (some km))
 v : W.cell? ⟨b, o + 1, none⟩ = some (.int .i64 e.version)
 a : W.cell? ⟨b, o + 3, none⟩ = some (.int .i64 e.stamp.wall)
 bb : W.cell? ⟨b, o + 4, none⟩ = some (.int .i64 e.stamp.logic)
 c : W.cell? ⟨b, o + 5, none⟩ = some (.int .i64 e.stamp.node)
section
variable {sb km b o : Nat} {e : Event}
theorem ApE.k' (d : Wd (ApE sb km b o e)) : d.w.cell? ⟨sb, 1, none⟩ = some (.map (some km)) := d.ok.k
theorem ApE.v' (d : Wd (ApE sb km b o e)) : d.w.cell? ⟨b, o + 1, none⟩ = some (.int .i64 e.version) := d.ok.v
theorem ApE.a' (d : Wd (ApE sb km b o e)) : d.w.cell? ⟨b, o + 3, none⟩ = some (.int .i64 e.stamp.wall) := d.ok.a
theorem ApE.b' (d : Wd (ApE sb km b o e)) : d.w.cell? ⟨b, o + 4, none⟩ = some (.int .i64 e.stamp.logic) := d.ok.bb
theorem ApE.c' (d : Wd (ApE sb km b o e)) : d.w.cell? ⟨b, o + 5, none⟩ = some (.int .i64 e.stamp.node) := d.ok.c
end
theorem StrsAt.nil_ {w : World} {P : Nat → Prop} {m : Nat} (h : MapAt strE w m []) : StrsAt w P m [] := ⟨h, by simp, by simp, List.Pairwise.nil⟩
theorem append_yes (tb : Nat) (T : Tab) (k : Str) (A : Option Addr) (c : Nat) (l : List Event) (P Q : Nat → Prop) (w : World) (h : TabAt w P tb T) (hr : EventR.Row w Q A l) (hPQ : ∀ g, Q g → ¬ P g) (hl : l.length ≤ 40000) (hk : sfit k) (hev : ∀ n, versionT T n ≤ 40000) (hT : Tabs w) (h2 : 2 ≤ w.heap.size)
 (hyes : (appendT k l T).2 = 0) : Calls Tryz.prog 257 #[ptrV tb, .string k, .slice A l.length c] w (AppendOut w P tb T k l) := by
 obtain ⟨e0, hl0, hal, hkb, hgo⟩ := appendT_yes hyes
 have hmm := @run_makeMap Tryz.prog
 have CA := alike_any A c l Q w hr (by omega) hT h2
 rw [hal] at CA
 have HT := jh h
 have HR := jh hr
 have CK := fun W (hb : Below w.heap.size w W) => keyF k W hk (hT.below hb)
 rw [hkb] at CK
 have HEVL := jh (show ∀ ts, getA e0.stream T = some ts → ts.events.length ≤ 40000 from fun ts h => by
  have := hev e0.stream
  unfold versionT at this
  rw [h] at this
  simp only at this; omega)
 have hv0 : 0 ≤ versionT T e0.stream := by unfold versionT; split <;> omega
 have hvv := hev e0.stream
 have CV := fun W (hb : Below w.heap.size w W) => version_any tb T e0.stream P W (h.ext hb)
 have CG := fun W (hb : Below w.heap.size w W) => goes_any A c l (versionT T e0.stream) Q W (hr.ext hb) (by omega) (by omega)
 rw [hgo] at CG
 have HAP := jh (appendT_0 hl0 hal hkb hgo)
 have HL0 := jh hl0
 have hll : 0 < l.length := (List.getElem?_eq_some_iff.1 hl0).1
 have hl0' : ((l.length : Int) == 0) = false := by rw [beq_eq_false_iff_ne]; omega
 have hll' : (0 : Int) < l.length := by omega
 have HPQ := jh hPQ
 have hksf := hk
 clear h hr hev hk hyes hl0 hal hkb hgo hPQ
 unfold ptrV at CV ⊢
 go_enter Tryz.func257, Tryz.ntmps257
 go_wp2_with fail
 refine CA.mono ?_
 clear CA
 rintro e w1 ⟨rfl, hb1⟩
 go_wp2_with fail
 refine (CK w1 hb1).mono ?_
 clear CK
 rintro e w2 ⟨rfl, hb2⟩
 obtain ⟨b, o, cs, rfl, hP, hbw, hrep, hcs⟩ := (HR.out.ext (hb1.tr hb2)).at_ HL0.out
 obtain ⟨rfl, hf⟩ := event_rep.1 hrep
 have c0 := hcs 0 _ rfl
 simp only [EventR_size, Nat.zero_mul, Nat.add_zero] at c0
 clear hcs hrep
 go_wp2_with fail
 refine (CV w2 (hb1.tr hb2)).mono ?_
 clear CV
 rintro e w2' ⟨rfl, rfl⟩
 go_wp2_with fail
 refine (CG w2 (hb1.tr hb2)).mono ?_
 clear CG c0
 rintro e w3 ⟨rfl, hb3⟩
 have hw3 := (hb1.tr hb2).tr hb3
 have hz3 := hw3.size
 have HFN := jh (show sfit e0.stream from hf.1)
 have HF := jh hf
 clear hb1 hb2 hb3 hbw hf
 obtain ⟨mp, c0, HC⟩ : ∃ mp : Option Nat, w3.cell? ⟨tb, 0, none⟩ = some (.map mp) ∧ Hid ((mp = none ∧ Blk w3 tb 252 [.map none] ∧ T = []) ∨ ∃ m TA, mp = some m ∧ Blk w3 tb 252 [.map (some m)] ∧ P m ∧ StrsAt w3 P m TA ∧ T = TabA.tab TA) := by
  obtain ⟨_, ⟨h1, h2⟩ | ⟨m, TA, h1, h2, h3, h4⟩⟩ := HT.out.ext hw3
  ·exact ⟨none, h1.cell 0, jh (.inl ⟨rfl, h1, h2⟩)⟩
  ·exact ⟨some m, h1.cell 0, jh (.inr ⟨m, TA, rfl, h1, h2, h3, h4⟩)⟩
 have htl : P tb ∧ tb < w.heap.size := ⟨HT.out.1, HT.out.lt⟩
 have hqq := fun W => run_eql_map_nil_sl (P := Tryz.prog) W 250 _ _ mp Tryz.underlying250
 go_upto_if 42 with fail
 clear hqq c0
 go_cut [] (fun wx => ∃ m TA, Blk wx tb 252 [.map (some m)] ∧ (P m ∨ w.heap.size ≤ m) ∧ StrsAt wx (fun g => P g ∨ w.heap.size ≤ g) m TA ∧ T = TabA.tab TA ∧ Only P w wx)
 case first =>
  rcases HC.out with ⟨rfl, hB, hTe⟩ | ⟨m, TA, rfl, hB, hm, hA, hTe⟩
  ·have HB := jh (ja hB hTe)
   have f0 : w3.frozen? ⟨tb, 0, none⟩ = false := hB.frozen 0
   have c0 : w3.cell? ⟨tb, 0, none⟩ = some (.map none) := hB.cell 0
   have htl3 : tb < w3.heap.size := hB.lt
   clear hB hTe
   go_wp2_with fail
   go_meet
   have hMN := MapAt.new (enc := strE) (w3.setCell ⟨tb, 0, none⟩ (.map (some w3.heap.size)))
   simp only [World.size_setCell] at hMN
   exact ⟨w3.heap.size, [], (HB.out.1.set_ 0 _).alloc _, .inr hz3, StrsAt.nil_ hMN, HB.out.2, ((jo hw3).tr (Only.set_ (p := ⟨tb, 0, none⟩) htl.1 _)).tr (Only.alloc _)⟩
  ·have HB := jh (ja hB (ja hm (ja hA hTe)))
   clear hB hm hA hTe
   go_wp2_with fail
   go_meet
   exact ⟨m, TA, HB.out.1, .inl HB.out.2.1, HB.out.2.2.1.mono (fun g h => .inl h), HB.out.2.2.2, jo hw3⟩
 case rest =>
  obtain ⟨m, TA, hB, hm, hA, hTe, hO⟩ := hcut
  have hrow := HR.out.same (Same.of_only hO (fun g hq => HPQ.out g hq)) hO.size
  obtain ⟨b', o', cs, he, hP', hbw, hrep, hcs⟩ := hrow.at_ HL0.out
  obtain ⟨rfl, rfl⟩ : b = b' ∧ o = o' := by simpa using he
  obtain ⟨rfl, _⟩ := event_rep.1 hrep
  have y0 := On.cell (hcs 0 _ rfl)
  have y1 := On.cell (hB.cell 0 : wc.cell? ⟨tb, 0, none⟩ = some (.map (some m)))
  simp only [EventR_size, Nat.zero_mul, Nat.add_zero] at y0
  have hlk := fun d : Wd (On wc) => run_lookup_map strKey Tryz.underlying250 (hA.map.ext d.ok) e0.stream _ (zero_sptr d.w) false
  have hpg := ptrs_get TA e0.stream
  rw [← assocOf_eq] at hpg
  rw [if_neg (by simp), hpg] at hlk
  have HA := jh (ja hB (ja hm (ja hA (ja hTe hO))))
  have HROW := jh hrow
  clear hcs hrep he hpg hB hm hA hTe hO hrow
  have htn : getA e0.stream T = (getA e0.stream TA).map (·.1) := by rw [HA.out.2.2.2.1, tab_get]
  have hvt := HEVL.out
  have htn : getA e0.stream T = (getA e0.stream TA).map (·.1) := by rw [HA.out.2.2.2.1, tab_get]
  have hvt := HEVL.out
  have htn : getA e0.stream T = (getA e0.stream TA).map (·.1) := by rw [HA.out.2.2.2.1, tab_get]
  have hvt := HEVL.out
  have htn : getA e0.stream T = (getA e0.stream TA).map (·.1) := by rw [HA.out.2.2.2.1, tab_get]
  have hvt := HEVL.out
  have htn : getA e0.stream T = (getA e0.stream TA).map (·.1) := by rw [HA.out.2.2.2.1, tab_get]
  have hvt := HEVL.out
  have htn : getA e0.stream T = (getA e0.stream TA).map (·.1) := by rw [HA.out.2.2.2.1, tab_get]
  have hvt := HEVL.out
  cases hq : getA e0.stream TA with
  | none =>
    have HTN := jh (show getA e0.stream T = none from by rw [htn, hq]; rfl)
    have HQ := jh hq
    rw [hq] at hlk
    simp only [Option.map_none, Option.getD_none] at hlk
    clear hq htn
    go_upto_region 7 with fail
    refine wp_region_mix (.leaf [0, 1, 2, 3, 4, 5, 6, 7, 8, 9]) (fun w' => ∃ d : Wd (On wc), w' = d.w) (by kernel_rfl) (by kernel_rfl) (fun _ _ d _ _ h => by cases d <;> exact h) (ClsW.mk (jb _ _).drew) ?_
    unfold wpMix; simp only [pick, j1, j2, j3, j4]
    (repeat (show wpQuiet _ _ _ _ (_ :: _) _; go_big_quiet_step (fail))); refine qn ?_
    clear y0 y1 hlk
    go_upto_region 10 with fail
    have hB1 := (jb wc.heap.size wc).al (.map #[] 0)
    have hM1 := (MapAt.new (enc := strE) wc).alloc (.cells #[.slice none 0 0, .map (some wc.heap.size)] 287)
    have hK1 := Blk.new1 wc (.map #[] 0) 287 [.slice none 0 0, .map (some wc.heap.size)]
    refine forget (M := fun W => Code.wp _ _ _ _ W) (fun W => Below wc.heap.size wc W ∧ Blk W (wc.heap.size + 1) 287 [.slice none 0 0, .map (some wc.heap.size)] ∧ MapAt strE W wc.heap.size []) ⟨(hB1.al _).drew, hK1.drew, hM1.drewN 1⟩ ?_
    clear hB1 hM1 hK1
    rintro wD ⟨hbD, hKD, hMD⟩
    have hD : ApD tb m b o e0.stream wD := ⟨(HA.out.1.ext hbD).cell 0, by
     obtain ⟨b', o', cs, he, _, _, hrep, hcs⟩ := (HROW.out.ext hbD).at_ HL0.out
     obtain ⟨rfl, rfl⟩ : b = b' ∧ o = o' := by simpa using he
     obtain ⟨rfl, _⟩ := event_rep.1 hrep
     have := hcs 0 _ rfl
     simpa only [EventR_size, Nat.zero_mul, Nat.add_zero] using this⟩
    have hne : m ≠ tb ∧ m ≠ b := by
     refine ⟨fun e => ?_, fun e => ?_⟩
     ·have := HA.out.2.2.1.map.not_cells HA.out.1; exact this e
     ·have := (HA.out.2.2.1.map.ext hbD).cells? o; rw [e, hD.e] at this; cases this
    haveI : Nonempty (Wd (ApD tb m b o e0.stream)) := ⟨⟨wD, hD⟩⟩
    have y1 := ApD.t' (tb := tb) (m := m) (b := b) (o := o) (n := e0.stream)
    have y0 := ApD.e' (tb := tb) (m := m) (b := b) (o := o) (n := e0.stream)
    have hMm := HA.out.2.2.1.map.ext hbD
    refine wp_region_mix (.seg [0, 1, 2, 3, 4, 5, 6, 7, 8] 9 (.leaf [])) (fun w' => ∃ d : Wd (ApD tb m b o e0.stream), w' = d.w) (by kernel_rfl) (by kernel_rfl) (fun _ _ d _ _ h => by cases d <;> exact h) (ClsW.mk (D := ApD tb m b o e0.stream) ⟨hD.t, hD.e⟩) ?_
    unfold wpMix; simp only [pick, j1, j2, j3, j4]
    (repeat (show wpQuiet _ _ _ _ (_ :: _) _; go_big_quiet_step (fail))); refine qn ?_
    refine wpList_mapUpdate_map strKey rfl rfl (.tmp 64) (.tmp 68) (.tmp 69) 250 rfl Tryz.underlying250 rfl (hMm.drewN 1) e0.stream rfl (ptrV (wc.heap.size + 1)) rfl ?_
    intro wB hMB hOD
    have hD' : ApD tb m b o e0.stream wB := ⟨(World.cell?_of_block (w := wD) (hOD.block tb (HA.out.1.ext hbD).lt (fun e => hne.1 e.symm))).trans hD.t, (World.cell?_of_block (w := wD) (hOD.block b (lt_of_cell hD.e) (fun e => hne.2 e.symm))).trans hD.e⟩
    try go_simp
    dsimp only [wpList, SegQ]
    refine ⟨fun w' => ∃ d : Wd (ApD tb m b o e0.stream), w' = d.w, ClsW.mk (D := ApD tb m b o e0.stream) hD', fun _ h => h, ?_⟩
    unfold wpMix; simp only [pick, List.filterMap_nil]
    (repeat (show wpQuiet _ _ _ _ (_ :: _) _; go_big_quiet_step (fail))); refine qn ?_
    rw [assocPut_eq] at hMB
    have hzc := HA.out.2.2.2.2.size
    have hO1 : Only (fun g => g = m ∨ wc.heap.size ≤ g) wc wB := (jo hbD.drew).tr (hOD.mono (fun g h => Or.inl h))
    have hmlt := HA.out.2.2.1.map.lt
    have hOD2 : Only (fun g => g = m) wD wB := (jo (jb _ wD).drew).tr hOD
    have hTB : TSAt wB ⟨wc.heap.size + 1, .slice none 0 0, wc.heap.size⟩ ⟨[], []⟩ := ⟨hKD.only hOD2 (fun h => by have h' : wc.heap.size + 1 = m := h; omega), Rep.Own.nil_, hMD.only hOD2 (fun h => by have h' : wc.heap.size = m := h; omega), by simp, by simp⟩
    obtain ⟨s, hs⟩ : ∃ s : SB, s = ⟨wc.heap.size + 1, .slice none 0 0, wc.heap.size⟩ := ⟨_, rfl⟩
    obtain ⟨ts0, hts⟩ : ∃ t : TS, t = ⟨[], []⟩ := ⟨_, rfl⟩
    have hptr : (Value.pointer (some ⟨wc.heap.size + 1, 0, none⟩)) = ptrV s.b := by rw [hs]; rfl
    rw [← hs, ← hts] at hTB
    have hA := HA.out.2.2.1.more hO1 (by rw [hs]; exact hMB) hTB (by rw [hs]; exact ⟨by simp, by simp, fun g h => by cases h⟩) HFN.out (fun g h => h) (fun g h => .inr (by omega))
    have hB := (HA.out.1.ext hbD).only hOD2 (fun e => hne.1 (show tb = m from e).symm)
    have hq : getA e0.stream (putA e0.stream (ts0, s) TA) = some (ts0, s) := by rw [getA_put, if_pos rfl]
    have hpp : ∀ x, putA e0.stream x (putA e0.stream (ts0, s) TA) = putA e0.stream x TA := fun x => putA_put _ _ _ _
    have hOB : Only P w wB := HA.out.2.2.2.2.trans hO1 (fun g hl h => by
     rcases h with rfl | h
     ·rcases HA.out.2.1 with h1 | h1
      ·exact h1
      ·omega
     ·omega)
    have ht0 : ts0 = (getA e0.stream T).getD ⟨[], []⟩ := by rw [HTN.out, hts]; rfl
    have HLE := jh (show ts0.events.length ≤ 40000 from by rw [hts]; simp)
    generalize putA e0.stream (ts0, s) TA = TA' at hA hq hpp
    rw [hptr]
    unfold ptrV
    clear hptr hs hts hMD hKD hbD hD hD' hMm hMB hOD hOD2 hO1 hTB y0 y1
    -- the tail: hB hA hq hOB hpp ht0 HLE
    obtain ⟨hTS, hskm, hsIn, hsfn⟩ := hA.each _ (getA_mem hq)
    obtain ⟨Ae, ce, hev, hca, hcb⟩ := hTS.ev.form
    obtain ⟨sb, ev, km⟩ := s
    simp only at hev hTS hsIn hB hA hq hskm
    subst hev
    have x0 : wB.cell? ⟨sb, 0, none⟩ = some (.slice Ae ts0.events.length ce) := hTS.blk.cell 0
    have hown := hTS.ev.plain (S' := fun _ => True) event_plain
    have hrowB := HR.out.same (w' := wB) (Same.of_only hOB (fun g hq => HPQ.out g hq)) hOB.size
    have hrowB2 := (HR.out.mono (Q := fun g => Q g ∧ g < w.heap.size) (fun g h1 h2 => ⟨h1, h2⟩)).same (w' := wB) (Same.of_only hOB (fun g hq => HPQ.out g hq.1)) hOB.size
    have hQne : ∀ g, Q g ∧ g < w.heap.size → g < wB.heap.size → True ∧ some g ≠ (Value.slice Ae ts0.events.length ce).ownBlock := fun g hg hl => ⟨trivial, fun h => by
     rcases hsIn.ev g h.symm with h1 | h1
     ·exact HPQ.out g hg.1 h1
     ·omega⟩
    obtain ⟨i0, hi0, hz0, hz1, hz2⟩ := info_parts event_info
    have hevl := HLE.out
    have HH := jh (ja hB (ja hA (ja hq (ja hOB (ja hTS (ja hpp ht0))))))
    clear hB hA hq hOB hTS hpp ht0 hskm hsfn
    have fB : ∀ j, wB.frozen? ⟨sb, j, none⟩ = false := fun j => HH.out.2.2.2.2.1.blk.frozen j
    have fB0 := fB 0
    clear fB
    go_upto_region 12 with (first
     | (at_builtin; refine wpList_append_rep (R := EventR) wB rfl (.tmp 74) (.tmp 75) _ rfl 0 202 i0 _ 72 Tryz.underlying64 hi0 hz0 hz1 hz2 rfl _ ts0.events (fun _ => True) rfl hown _ (some ⟨b, o, none⟩) c l rfl hrowB2 hQne (by unfold maxLen; omega) (by omega) (Nat.zero_le _) ?_; intro v1 w6 ho1 hg1 hat1 hn1 hb1; obtain ⟨A1, c1, he1, _⟩ := ho1.form; rw [List.length_append] at he1; subst he1; have z0 := (HH.out.2.2.2.2.1.blk.only (Only.grown hg1 (F := fun g => (Value.slice Ae ts0.events.length ce).ownBlock = some g) (fun g hg => hg)) (fun h => by obtain ⟨xs, hx, _⟩ := HH.out.2.2.2.2.1.ev; exact own_blk_ne hx HH.out.2.2.2.2.1.blk (by decide) h)); have HZ := jh z0; have z00 := z0.cell 0; have z01 := z0.cell 1; have f00 := z0.frozen 0; simp only [List.getElem?_cons_zero, List.getElem?_cons_succ] at z00 z01; clear z0 x0 fB0)
     | fail)
    obtain ⟨hB, hA, hq, hOB, hTS, hpp, ht0⟩ := HH.out
    have hOf : Only (SB.Foot ⟨sb, .slice Ae ts0.events.length ce, km⟩ wB.heap.size) wB (w6.setCell ⟨sb, 0, none⟩ (.slice A1 (ts0.events.length + l.length) c1)) :=
     (Only.grown hg1 (F := SB.Foot ⟨sb, .slice Ae ts0.events.length ce, km⟩ wB.heap.size) (fun g hg => .inr (.inr (.inl hg)))).tr (Only.set_ (p := ⟨sb, 0, none⟩) (.inl rfl) _)
    have hkne : km ≠ sb := (hTS.not_map hTS.km).1
    have hTS7 : TSAt (w6.setCell ⟨sb, 0, none⟩ (.slice A1 (ts0.events.length + l.length) c1)) ⟨sb, .slice A1 (ts0.events.length + l.length) c1, km⟩ ⟨ts0.events ++ l, ts0.keys⟩ := by
     refine ⟨HZ.out.set_ 0 _, ?_, ?_, hTS.nd, hTS.fit⟩
     ·refine (ho1.plain (S' := fun _ => False) event_plain).only (F := fun g => g = sb) (Only.set_ (F := fun g => g = sb) (p := ⟨sb, 0, none⟩) rfl _) (fun _ h => h.elim) (fun g hg h => ?_)
      obtain ⟨xs, hx, _⟩ := ho1
      exact own_blk_ne hx HZ.out (by decide) (h ▸ hg)
     ·refine hTS.km.only ((Only.grown hg1 (F := fun g => g = sb ∨ (Value.slice Ae ts0.events.length ce).ownBlock = some g) (fun g hg => .inr hg)).tr (Only.set_ (p := ⟨sb, 0, none⟩) (.inl rfl) _)) ?_
      rintro (h | h)
      ·exact hkne h
      ·exact (hTS.not_map hTS.km).2 h
    have hA7 := hA.turn (P' := fun g => P g ∨ w.heap.size ≤ g) hq hOf hTS7 rfl rfl (fun g hg => by
     rcases hat1 with h | h
     ·exact .inl (h ▸ hg)
     ·rw [h] at hg; injection hg with hg; exact .inr (by omega)) (fun g h => h) (fun g h => .inr (by have := hOB.size; omega))
    have htbf : ¬ SB.Foot ⟨sb, .slice Ae ts0.events.length ce, km⟩ wB.heap.size tb := by
     rintro (h | h | h | h)
     ·exact (hTS.blk.ne_ hB (by decide)) h.symm
     ·exact (hTS.km.not_cells hB) h.symm
     ·obtain ⟨xs, hx, _⟩ := hTS.ev
      exact own_blk_ne hx hB (by decide) h
     ·have := hB.lt; omega
    have hO7 : Only P w (w6.setCell ⟨sb, 0, none⟩ (.slice A1 (ts0.events.length + l.length) c1)) := hOB.trans hOf (fun g hl h => by
     have hz := hOB.size
     have key : (P g ∨ w.heap.size ≤ g) → P g := fun h => h.elim id (fun h => by omega)
     rcases h with rfl | rfl | h | h
     ·exact key hsIn.b
     ·exact key hsIn.km
     ·exact key (hsIn.ev g h)
     ·omega)
    have HX := jh (ja (hB.only hOf htbf) (ja hA7 (ja hO7 (ja hpp ht0))))
    have hz7 : w.heap.size ≤ (w6.setCell ⟨sb, 0, none⟩ (.slice A1 (ts0.events.length + l.length) c1)).heap.size := hO7.size
    clear hB hA hq hOB hTS hpp ht0 hOf hkne hTS7 hA7 htbf hO7 hown hrowB hrowB2 hQne hi0 hz0 hz1 hz2 hevl ho1 hg1 hat1 hn1 hb1 HZ z00 z01 f00 HH hsIn hca hcb
    generalize (w6.setCell ⟨sb, 0, none⟩ (.slice A1 (ts0.events.length + l.length) c1)) = w7 at *
    have hgq : ∀ X, getA e0.stream (putA e0.stream X TA') = some X := fun X => by rw [getA_put, if_pos rfl]
    have hT7 := (HX.out.2.1.each _ (getA_mem (hgq _))).1
    simp only at hT7
    have x1 : w7.cell? ⟨sb, 1, none⟩ = some (.map (some km)) := hT7.blk.cell 1
    have hKM := hT7.km
    have hkg := keys_get ts0.keys k
    have HFIN := jh (show ∀ (W : World) (ks : List (Str × Known)), StrsAt W (fun g => P g ∨ w.heap.size ≤ g) m (putA e0.stream (⟨ts0.events ++ l, ks⟩, ⟨sb, .slice A1 (ts0.events.length + l.length) c1, km⟩) TA') → Blk W tb 252 [.map (some m)] → Only P w W → addKey k e0 ts0.keys = ks → AppendOut w P tb T k l (.returned (.int .i64 0)) W from fun W ks h1 h2 h3 h4 => by
     unfold AppendOut
     rw [HAP.out]
     refine ⟨rfl, ⟨.inl htl.1, .inr ⟨m, _, h2, HA.out.2.1, h1, ?_⟩⟩, h3⟩
     rw [HX.out.2.2.2.1]
     unfold TabA.tab
     rw [← putA_map (fun q : TS × SB => q.1), ← HX.out.2.2.2.2]
     have := HA.out.2.2.2.1
     unfold TabA.tab at this
     rw [← this, h4])
    clear hT7 hgq
    cases hkq : getA k ts0.keys with
    | some x =>
      rw [hkq] at hkg
      have HKG := jh hkg
      have HKQ := jh hkq
      unfold Known.val at HKG
      clear hkq hkg
      go_wp2_with (first
       | (at_lookup; refine wpList_lookup_two (some (.agg #[.string x.key, .int .i64 x.first, .int .i64 x.stamp.wall, .int .i64 x.stamp.logic, .int .i64 x.stamp.node])) strKey rfl (.tmp 83) (.tmp 84) 285 rfl Tryz.underlying285 rfl hKM k rfl HKG.out _ (zero_known _) ?_; simp only [Option.getD_some, Option.isSome_some])
       | fail)
      go_ret
      exact HFIN.out _ ts0.keys (HX.out.2.1.same HA.out.2.1 (js ((jb _ _).al _))) (HX.out.1.alloc _) (HX.out.2.2.1.tr (Only.alloc _)) (by unfold addKey; rw [if_neg (by rw [HKQ.out]; simp)])
    | none =>
      rw [hkq] at hkg
      have HKG := jh hkg
      have HKQ := jh hkq
      clear hkq hkg
      by_cases hke : k.toList = []
      ·have HKE := jh hke
       have hke2 : (!k.toList.isEmpty) = false := by rw [hke]; rfl
       go_wp2_with (first
        | (at_lookup; refine wpList_lookup_two none strKey rfl (.tmp 83) (.tmp 84) 285 rfl Tryz.underlying285 rfl hKM k rfl HKG.out _ (zero_known _) ?_; simp only [Option.getD_none, Option.isSome_none])
        | fail)
       go_ret
       exact HFIN.out _ ts0.keys (HX.out.2.1.same HA.out.2.1 (js ((jb _ _).al _))) (HX.out.1.alloc _) (HX.out.2.2.1.tr (Only.alloc _)) (by unfold addKey; rw [if_neg (by simp [HKE.out])])
      ·have HKE := jh hke
       have hke2 : (!k.toList.isEmpty) = true := by cases h : k.toList with | nil => exact absurd h hke | cons a b => rfl
       have hke3 : k.toList.isEmpty = false := by simpa using hke2
       go_upto_region 14 with (first
        | (at_lookup; refine wpList_lookup_two none strKey rfl (.tmp 83) (.tmp 84) 285 rfl Tryz.underlying285 rfl hKM k rfl HKG.out _ (zero_known _) ?_; simp only [Option.getD_none, Option.isSome_none])
        | fail)
       have hb8 := (jb w7.heap.size w7).al (.cells #[.string ⟨#[]⟩, .int .i64 0, .int .i64 0, .int .i64 0, .int .i64 0] 49)
       have HX8 := jh (ja (HX.out.2.1.same HA.out.2.1 (js hb8)) (ja (HX.out.1.ext hb8) (ja (HX.out.2.2.1.tr (jo hb8)) (ja (hKM.ext hb8) hb8.size))))
       have hzz := hb8.size
       clear hb8 x1 hKM
       generalize (w7.alloc (.cells #[.string ⟨#[]⟩, .int .i64 0, .int .i64 0, .int .i64 0, .int .i64 0] 49)) = w8 at *
       have hA8 := HX8.out.1
       have hgq : getA e0.stream (putA e0.stream ((⟨ts0.events ++ l, ts0.keys⟩, ⟨sb, .slice A1 (ts0.events.length + l.length) c1, km⟩) : TS × SB) TA') = some (⟨ts0.events ++ l, ts0.keys⟩, ⟨sb, .slice A1 (ts0.events.length + l.length) c1, km⟩) := by rw [getA_put, if_pos rfl]
       have hT8 := (hA8.each _ (getA_mem hgq)).1
       simp only at hT8
       have hrow8 := HR.out.same (w' := w8) (Same.of_only HX8.out.2.2.1 (fun g hq => HPQ.out g hq)) HX8.out.2.2.1.size
       obtain ⟨b', o', cs, he, hQb, _, hrep, hcs⟩ := hrow8.at_ HL0.out
       obtain ⟨rfl, rfl⟩ : b = b' ∧ o = o' := by simpa using he
       obtain ⟨rfl, _⟩ := event_rep.1 hrep
       have hE : ApE sb km b o e0 w8 := ⟨hT8.blk.cell 1, by simpa only [EventR_size, Nat.zero_mul, Nat.add_zero] using hcs 1 _ rfl, by simpa only [EventR_size, Nat.zero_mul, Nat.add_zero] using hcs 3 _ rfl, by simpa only [EventR_size, Nat.zero_mul, Nat.add_zero] using hcs 4 _ rfl, by simpa only [EventR_size, Nat.zero_mul, Nat.add_zero] using hcs 5 _ rfl⟩
       haveI : Nonempty (Wd (ApE sb km b o e0)) := ⟨⟨w8, hE⟩⟩
       have y1 := ApE.k' (sb := sb) (km := km) (b := b) (o := o) (e := e0)
       have y2 := ApE.v' (sb := sb) (km := km) (b := b) (o := o) (e := e0)
       have y3 := ApE.a' (sb := sb) (km := km) (b := b) (o := o) (e := e0)
       have y4 := ApE.b' (sb := sb) (km := km) (b := b) (o := o) (e := e0)
       have y5 := ApE.c' (sb := sb) (km := km) (b := b) (o := o) (e := e0)
       have hmlt := hT8.km.lt
       have hkmb : b ≠ km := fun e => by
        have := hT8.km.cells? (o + 1); rw [← e, hE.v] at this; cases this
       have hkms : sb ≠ km := fun e => by
        exact (hT8.not_map hT8.km).1 e.symm
       have hKM8 := hT8.km
       clear hcs hrep he hrow8
       refine wp_region_mix (.seg [0, 1, 2, 3, 4, 5, 6, 7, 8, 9, 10, 11, 12, 13] 14 (.seg [] 15 (.leaf []))) (fun w' => ∃ d : Wd (ApE sb km b o e0), w' = d.w) (by kernel_rfl) (by kernel_rfl) (fun _ _ d _ _ h => by cases d <;> exact h) (ClsW.mk (D := ApE sb km b o e0) ⟨hE.k, hE.v, hE.a, hE.bb, hE.c⟩) ?_
       unfold wpMix; simp only [pick, j1, j2, j3, j4]
       (repeat (show wpQuiet _ _ _ _ (_ :: _) _; go_big_quiet_step (fail))); refine qn ?_
       go_wp2_with fail
       dsimp only [wpList, SegQ]
       refine ⟨fun w' => ∃ d : Wd (ApE sb km b o e0), w' = d.w, ClsW.mk (D := ApE sb km b o e0) ⟨hE.k, hE.v, hE.a, hE.bb, hE.c⟩, fun _ h => h, ?_⟩
       unfold wpMix; simp only [pick, j1, j2, j3, j4]
       (repeat (show wpQuiet _ _ _ _ (_ :: _) _; go_big_quiet_step (fail))); refine qn ?_
       refine wpList_mapUpdate_map strKey rfl rfl (.tmp 97) (.tmp 98) (.tmp 108) 285 rfl Tryz.underlying285 rfl (hKM8.drewN 1) k rfl (.agg #[.string k, .int .i64 e0.version, .int .i64 e0.stamp.wall, .int .i64 e0.stamp.logic, .int .i64 e0.stamp.node]) rfl ?_
       intro w9 hM9 hO9
       have hE9 : ApE sb km b o e0 w9 := by
        have f1 : ∀ j, w9.cell? ⟨sb, j, none⟩ = w8.cell? ⟨sb, j, none⟩ := fun j => World.cell?_of_block (w := w8) (a := ⟨sb, j, none⟩) (hO9.block sb hT8.blk.lt hkms)
        have f2 : ∀ j, w9.cell? ⟨b, j, none⟩ = w8.cell? ⟨b, j, none⟩ := fun j => World.cell?_of_block (w := w8) (a := ⟨b, j, none⟩) (hO9.block b (lt_of_cell hE.v) hkmb)
        exact ⟨(f1 _).trans hE.k, (f2 _).trans hE.v, (f2 _).trans hE.a, (f2 _).trans hE.bb, (f2 _).trans hE.c⟩
       try go_simp
       dsimp only [wpList, SegQ]
       refine ⟨fun w' => ∃ d : Wd (ApE sb km b o e0), w' = d.w, ClsW.mk (D := ApE sb km b o e0) hE9, fun _ h => h, ?_⟩
       unfold wpMix; simp only [pick, List.filterMap_nil]
       (repeat (show wpQuiet _ _ _ _ (_ :: _) _; go_big_quiet_step (fail))); refine qn ?_
       have hO92 : Only (fun g => g = km) w8 w9 := (jo (jb _ w8).drew).tr hO9
       have hT9 : TSAt w9 ⟨sb, .slice A1 (ts0.events.length + l.length) c1, km⟩ ⟨ts0.events ++ l, putA k ⟨k, e0.version, e0.stamp⟩ ts0.keys⟩ := by
        refine ⟨hT8.blk.only hO92 hkms, hT8.ev.only hO92 (fun _ h => h.elim) (fun g hg h => ?_), ?_, putA_nodup hT8.nd, fun p hp => ?_⟩
        ·exact (hT8.not_map hT8.km).2 (h ▸ hg)
        ·rw [assocPut_eq] at hM9
         have := putA_map (fun x : Known => x.val) k ⟨k, e0.version, e0.stamp⟩ ts0.keys
         rw [← this]
         exact hM9
        ·rcases putA_mem' hT8.nd hp with rfl | hp
         ·exact ⟨⟨hksf, HF.out.2.1, HF.out.2.2.2.1⟩, hksf⟩
         ·exact hT8.fit p hp.1
       have hA9 := hA8.turn (P' := fun g => P g ∨ w.heap.size ≤ g) hgq (hO92.mono (fun g h => .inr (.inl h))) hT9 rfl rfl (fun g hg => .inl hg) (fun g h => h) (fun g h => .inr (by have := HX8.out.2.2.1.size; omega))
       rw [putA_put] at hA9
       have hB9 := HX8.out.2.1.only hO92 (fun e => hT8.km.not_cells HX8.out.2.1 e.symm)
       have hkmP := (hA8.each _ (getA_mem hgq)).2.2.1.km
       have hO99 : Only P w w9 := HX8.out.2.2.1.trans hO92 (fun g hl h => by
        subst h
        rcases hkmP with h1 | h1
        ·exact h1
        ·simp only at h1; omega)
       have HZZ := jh (HFIN.out w9 _ hA9 hB9 hO99 (by unfold addKey; rw [if_pos ⟨by rw [HKQ.out]; rfl, HKE.out⟩]))
       clear hA9 hB9 hO99 hT9 hO92 hE9 hM9 hO9 hE hT8 hA8 hgq y1 y2 y3 y4 y5 hKM8 hkmP
       go_wp2_with fail
       go_ret
       exact HZZ.out
  | some q =>
    obtain ⟨ts0, s⟩ := q
    obtain ⟨TA', hTA'⟩ : ∃ X, X = TA := ⟨_, rfl⟩
    rw [hq] at htn
    have HLE := jh (hvt ts0 htn)
    have HQ := jh hq
    rw [hq] at hlk
    simp only [Option.map_some, Option.getD_some, ptrV] at hlk
    have ht0 : ts0 = (getA e0.stream T).getD ⟨[], []⟩ := by rw [htn]; rfl
    have hpp : ∀ x, putA e0.stream x TA' = putA e0.stream x TA := fun _ => by rw [hTA']
    have HPT := jh (ja hpp ht0)
    clear hq htn ht0 hpp
    go_upto_region 7 with fail
    refine wp_region_mix (.leaf [0, 1, 2, 3, 4, 5, 6, 7, 8, 9]) (fun w' => ∃ d : Wd (On wc), w' = d.w) (by kernel_rfl) (by kernel_rfl) (fun _ _ d _ _ h => by cases d <;> exact h) (ClsW.mk (jb _ _).drew) ?_
    unfold wpMix; simp only [pick, j1, j2, j3, j4]
    (repeat (show wpQuiet _ _ _ _ (_ :: _) _; go_big_quiet_step (fail))); refine qn ?_
    clear y0 y1 hlk
    go_upto_region 11 with fail
    obtain ⟨hpp, ht0⟩ := HPT.out
    have hcd : Below wc.heap.size wc wc.drew := (jb _ _).drew
    have hB := HA.out.1.ext hcd
    have hA := HA.out.2.2.1.same HA.out.2.1 (js hcd)
    have hq := HQ.out
    rw [← hTA'] at hA hq
    have hOB := HA.out.2.2.2.2.tr (jo hcd)
    clear hcd hTA'
    generalize wc.drew = wB at *
    -- the tail: hB hA hq hOB hpp ht0 HLE
    obtain ⟨hTS, hskm, hsIn, hsfn⟩ := hA.each _ (getA_mem hq)
    obtain ⟨Ae, ce, hev, hca, hcb⟩ := hTS.ev.form
    obtain ⟨sb, ev, km⟩ := s
    simp only at hev hTS hsIn hB hA hq hskm
    subst hev
    have x0 : wB.cell? ⟨sb, 0, none⟩ = some (.slice Ae ts0.events.length ce) := hTS.blk.cell 0
    have hown := hTS.ev.plain (S' := fun _ => True) event_plain
    have hrowB := HR.out.same (w' := wB) (Same.of_only hOB (fun g hq => HPQ.out g hq)) hOB.size
    have hrowB2 := (HR.out.mono (Q := fun g => Q g ∧ g < w.heap.size) (fun g h1 h2 => ⟨h1, h2⟩)).same (w' := wB) (Same.of_only hOB (fun g hq => HPQ.out g hq.1)) hOB.size
    have hQne : ∀ g, Q g ∧ g < w.heap.size → g < wB.heap.size → True ∧ some g ≠ (Value.slice Ae ts0.events.length ce).ownBlock := fun g hg hl => ⟨trivial, fun h => by
     rcases hsIn.ev g h.symm with h1 | h1
     ·exact HPQ.out g hg.1 h1
     ·omega⟩
    obtain ⟨i0, hi0, hz0, hz1, hz2⟩ := info_parts event_info
    have hevl := HLE.out
    have HH := jh (ja hB (ja hA (ja hq (ja hOB (ja hTS (ja hpp ht0))))))
    clear hB hA hq hOB hTS hpp ht0 hskm hsfn
    have fB : ∀ j, wB.frozen? ⟨sb, j, none⟩ = false := fun j => HH.out.2.2.2.2.1.blk.frozen j
    have fB0 := fB 0
    clear fB
    go_upto_region 12 with (first
     | (at_builtin; refine wpList_append_rep (R := EventR) wB rfl (.tmp 74) (.tmp 75) _ rfl 0 202 i0 _ 72 Tryz.underlying64 hi0 hz0 hz1 hz2 rfl _ ts0.events (fun _ => True) rfl hown _ (some ⟨b, o, none⟩) c l rfl hrowB2 hQne (by unfold maxLen; omega) (by omega) (Nat.zero_le _) ?_; intro v1 w6 ho1 hg1 hat1 hn1 hb1; obtain ⟨A1, c1, he1, _⟩ := ho1.form; rw [List.length_append] at he1; subst he1; have z0 := (HH.out.2.2.2.2.1.blk.only (Only.grown hg1 (F := fun g => (Value.slice Ae ts0.events.length ce).ownBlock = some g) (fun g hg => hg)) (fun h => by obtain ⟨xs, hx, _⟩ := HH.out.2.2.2.2.1.ev; exact own_blk_ne hx HH.out.2.2.2.2.1.blk (by decide) h)); have HZ := jh z0; have z00 := z0.cell 0; have z01 := z0.cell 1; have f00 := z0.frozen 0; simp only [List.getElem?_cons_zero, List.getElem?_cons_succ] at z00 z01; clear z0 x0 fB0)
     | fail)
    obtain ⟨hB, hA, hq, hOB, hTS, hpp, ht0⟩ := HH.out
    have hOf : Only (SB.Foot ⟨sb, .slice Ae ts0.events.length ce, km⟩ wB.heap.size) wB (w6.setCell ⟨sb, 0, none⟩ (.slice A1 (ts0.events.length + l.length) c1)) :=
     (Only.grown hg1 (F := SB.Foot ⟨sb, .slice Ae ts0.events.length ce, km⟩ wB.heap.size) (fun g hg => .inr (.inr (.inl hg)))).tr (Only.set_ (p := ⟨sb, 0, none⟩) (.inl rfl) _)
    have hkne : km ≠ sb := (hTS.not_map hTS.km).1
    have hTS7 : TSAt (w6.setCell ⟨sb, 0, none⟩ (.slice A1 (ts0.events.length + l.length) c1)) ⟨sb, .slice A1 (ts0.events.length + l.length) c1, km⟩ ⟨ts0.events ++ l, ts0.keys⟩ := by
     refine ⟨HZ.out.set_ 0 _, ?_, ?_, hTS.nd, hTS.fit⟩
     ·refine (ho1.plain (S' := fun _ => False) event_plain).only (F := fun g => g = sb) (Only.set_ (F := fun g => g = sb) (p := ⟨sb, 0, none⟩) rfl _) (fun _ h => h.elim) (fun g hg h => ?_)
      obtain ⟨xs, hx, _⟩ := ho1
      exact own_blk_ne hx HZ.out (by decide) (h ▸ hg)
     ·refine hTS.km.only ((Only.grown hg1 (F := fun g => g = sb ∨ (Value.slice Ae ts0.events.length ce).ownBlock = some g) (fun g hg => .inr hg)).tr (Only.set_ (p := ⟨sb, 0, none⟩) (.inl rfl) _)) ?_
      rintro (h | h)
      ·exact hkne h
      ·exact (hTS.not_map hTS.km).2 h
    have hA7 := hA.turn (P' := fun g => P g ∨ w.heap.size ≤ g) hq hOf hTS7 rfl rfl (fun g hg => by
     rcases hat1 with h | h
     ·exact .inl (h ▸ hg)
     ·rw [h] at hg; injection hg with hg; exact .inr (by omega)) (fun g h => h) (fun g h => .inr (by have := hOB.size; omega))
    have htbf : ¬ SB.Foot ⟨sb, .slice Ae ts0.events.length ce, km⟩ wB.heap.size tb := by
     rintro (h | h | h | h)
     ·exact (hTS.blk.ne_ hB (by decide)) h.symm
     ·exact (hTS.km.not_cells hB) h.symm
     ·obtain ⟨xs, hx, _⟩ := hTS.ev
      exact own_blk_ne hx hB (by decide) h
     ·have := hB.lt; omega
    have hO7 : Only P w (w6.setCell ⟨sb, 0, none⟩ (.slice A1 (ts0.events.length + l.length) c1)) := hOB.trans hOf (fun g hl h => by
     have hz := hOB.size
     have key : (P g ∨ w.heap.size ≤ g) → P g := fun h => h.elim id (fun h => by omega)
     rcases h with rfl | rfl | h | h
     ·exact key hsIn.b
     ·exact key hsIn.km
     ·exact key (hsIn.ev g h)
     ·omega)
    have HX := jh (ja (hB.only hOf htbf) (ja hA7 (ja hO7 (ja hpp ht0))))
    have hz7 : w.heap.size ≤ (w6.setCell ⟨sb, 0, none⟩ (.slice A1 (ts0.events.length + l.length) c1)).heap.size := hO7.size
    clear hB hA hq hOB hTS hpp ht0 hOf hkne hTS7 hA7 htbf hO7 hown hrowB hrowB2 hQne hi0 hz0 hz1 hz2 hevl ho1 hg1 hat1 hn1 hb1 HZ z00 z01 f00 HH hsIn hca hcb
    generalize (w6.setCell ⟨sb, 0, none⟩ (.slice A1 (ts0.events.length + l.length) c1)) = w7 at *
    have hgq : ∀ X, getA e0.stream (putA e0.stream X TA') = some X := fun X => by rw [getA_put, if_pos rfl]
    have hT7 := (HX.out.2.1.each _ (getA_mem (hgq _))).1
    simp only at hT7
    have x1 : w7.cell? ⟨sb, 1, none⟩ = some (.map (some km)) := hT7.blk.cell 1
    have hKM := hT7.km
    have hkg := keys_get ts0.keys k
    have HFIN := jh (show ∀ (W : World) (ks : List (Str × Known)), StrsAt W (fun g => P g ∨ w.heap.size ≤ g) m (putA e0.stream (⟨ts0.events ++ l, ks⟩, ⟨sb, .slice A1 (ts0.events.length + l.length) c1, km⟩) TA') → Blk W tb 252 [.map (some m)] → Only P w W → addKey k e0 ts0.keys = ks → AppendOut w P tb T k l (.returned (.int .i64 0)) W from fun W ks h1 h2 h3 h4 => by
     unfold AppendOut
     rw [HAP.out]
     refine ⟨rfl, ⟨.inl htl.1, .inr ⟨m, _, h2, HA.out.2.1, h1, ?_⟩⟩, h3⟩
     rw [HX.out.2.2.2.1]
     unfold TabA.tab
     rw [← putA_map (fun q : TS × SB => q.1), ← HX.out.2.2.2.2]
     have := HA.out.2.2.2.1
     unfold TabA.tab at this
     rw [← this, h4])
    clear hT7 hgq
    cases hkq : getA k ts0.keys with
    | some x =>
      rw [hkq] at hkg
      have HKG := jh hkg
      have HKQ := jh hkq
      unfold Known.val at HKG
      clear hkq hkg
      go_wp2_with (first
       | (at_lookup; refine wpList_lookup_two (some (.agg #[.string x.key, .int .i64 x.first, .int .i64 x.stamp.wall, .int .i64 x.stamp.logic, .int .i64 x.stamp.node])) strKey rfl (.tmp 83) (.tmp 84) 285 rfl Tryz.underlying285 rfl hKM k rfl HKG.out _ (zero_known _) ?_; simp only [Option.getD_some, Option.isSome_some])
       | fail)
      go_ret
      exact HFIN.out _ ts0.keys (HX.out.2.1.same HA.out.2.1 (js ((jb _ _).al _))) (HX.out.1.alloc _) (HX.out.2.2.1.tr (Only.alloc _)) (by unfold addKey; rw [if_neg (by rw [HKQ.out]; simp)])
    | none =>
      rw [hkq] at hkg
      have HKG := jh hkg
      have HKQ := jh hkq
      clear hkq hkg
      by_cases hke : k.toList = []
      ·have HKE := jh hke
       have hke2 : (!k.toList.isEmpty) = false := by rw [hke]; rfl
       go_wp2_with (first
        | (at_lookup; refine wpList_lookup_two none strKey rfl (.tmp 83) (.tmp 84) 285 rfl Tryz.underlying285 rfl hKM k rfl HKG.out _ (zero_known _) ?_; simp only [Option.getD_none, Option.isSome_none])
        | fail)
       go_ret
       exact HFIN.out _ ts0.keys (HX.out.2.1.same HA.out.2.1 (js ((jb _ _).al _))) (HX.out.1.alloc _) (HX.out.2.2.1.tr (Only.alloc _)) (by unfold addKey; rw [if_neg (by simp [HKE.out])])
      ·have HKE := jh hke
       have hke2 : (!k.toList.isEmpty) = true := by cases h : k.toList with | nil => exact absurd h hke | cons a b => rfl
       have hke3 : k.toList.isEmpty = false := by simpa using hke2
       go_upto_region 14 with (first
        | (at_lookup; refine wpList_lookup_two none strKey rfl (.tmp 83) (.tmp 84) 285 rfl Tryz.underlying285 rfl hKM k rfl HKG.out _ (zero_known _) ?_; simp only [Option.getD_none, Option.isSome_none])
        | fail)
       have hb8 := (jb w7.heap.size w7).al (.cells #[.string ⟨#[]⟩, .int .i64 0, .int .i64 0, .int .i64 0, .int .i64 0] 49)
       have HX8 := jh (ja (HX.out.2.1.same HA.out.2.1 (js hb8)) (ja (HX.out.1.ext hb8) (ja (HX.out.2.2.1.tr (jo hb8)) (ja (hKM.ext hb8) hb8.size))))
       have hzz := hb8.size
       clear hb8 x1 hKM
       generalize (w7.alloc (.cells #[.string ⟨#[]⟩, .int .i64 0, .int .i64 0, .int .i64 0, .int .i64 0] 49)) = w8 at *
       have hA8 := HX8.out.1
       have hgq : getA e0.stream (putA e0.stream ((⟨ts0.events ++ l, ts0.keys⟩, ⟨sb, .slice A1 (ts0.events.length + l.length) c1, km⟩) : TS × SB) TA') = some (⟨ts0.events ++ l, ts0.keys⟩, ⟨sb, .slice A1 (ts0.events.length + l.length) c1, km⟩) := by rw [getA_put, if_pos rfl]
       have hT8 := (hA8.each _ (getA_mem hgq)).1
       simp only at hT8
       have hrow8 := HR.out.same (w' := w8) (Same.of_only HX8.out.2.2.1 (fun g hq => HPQ.out g hq)) HX8.out.2.2.1.size
       obtain ⟨b', o', cs, he, hQb, _, hrep, hcs⟩ := hrow8.at_ HL0.out
       obtain ⟨rfl, rfl⟩ : b = b' ∧ o = o' := by simpa using he
       obtain ⟨rfl, _⟩ := event_rep.1 hrep
       have hE : ApE sb km b o e0 w8 := ⟨hT8.blk.cell 1, by simpa only [EventR_size, Nat.zero_mul, Nat.add_zero] using hcs 1 _ rfl, by simpa only [EventR_size, Nat.zero_mul, Nat.add_zero] using hcs 3 _ rfl, by simpa only [EventR_size, Nat.zero_mul, Nat.add_zero] using hcs 4 _ rfl, by simpa only [EventR_size, Nat.zero_mul, Nat.add_zero] using hcs 5 _ rfl⟩
       haveI : Nonempty (Wd (ApE sb km b o e0)) := ⟨⟨w8, hE⟩⟩
       have y1 := ApE.k' (sb := sb) (km := km) (b := b) (o := o) (e := e0)
       have y2 := ApE.v' (sb := sb) (km := km) (b := b) (o := o) (e := e0)
       have y3 := ApE.a' (sb := sb) (km := km) (b := b) (o := o) (e := e0)
       have y4 := ApE.b' (sb := sb) (km := km) (b := b) (o := o) (e := e0)
       have y5 := ApE.c' (sb := sb) (km := km) (b := b) (o := o) (e := e0)
       have hmlt := hT8.km.lt
       have hkmb : b ≠ km := fun e => by
        have := hT8.km.cells? (o + 1); rw [← e, hE.v] at this; cases this
       have hkms : sb ≠ km := fun e => by
        exact (hT8.not_map hT8.km).1 e.symm
       have hKM8 := hT8.km
       clear hcs hrep he hrow8
       refine wp_region_mix (.seg [0, 1, 2, 3, 4, 5, 6, 7, 8, 9, 10, 11, 12, 13] 14 (.seg [] 15 (.leaf []))) (fun w' => ∃ d : Wd (ApE sb km b o e0), w' = d.w) (by kernel_rfl) (by kernel_rfl) (fun _ _ d _ _ h => by cases d <;> exact h) (ClsW.mk (D := ApE sb km b o e0) ⟨hE.k, hE.v, hE.a, hE.bb, hE.c⟩) ?_
       unfold wpMix; simp only [pick, j1, j2, j3, j4]
       (repeat (show wpQuiet _ _ _ _ (_ :: _) _; go_big_quiet_step (fail))); refine qn ?_
       go_wp2_with fail
       dsimp only [wpList, SegQ]
       refine ⟨fun w' => ∃ d : Wd (ApE sb km b o e0), w' = d.w, ClsW.mk (D := ApE sb km b o e0) ⟨hE.k, hE.v, hE.a, hE.bb, hE.c⟩, fun _ h => h, ?_⟩
       unfold wpMix; simp only [pick, j1, j2, j3, j4]
       (repeat (show wpQuiet _ _ _ _ (_ :: _) _; go_big_quiet_step (fail))); refine qn ?_
       refine wpList_mapUpdate_map strKey rfl rfl (.tmp 97) (.tmp 98) (.tmp 108) 285 rfl Tryz.underlying285 rfl (hKM8.drewN 1) k rfl (.agg #[.string k, .int .i64 e0.version, .int .i64 e0.stamp.wall, .int .i64 e0.stamp.logic, .int .i64 e0.stamp.node]) rfl ?_
       intro w9 hM9 hO9
       have hE9 : ApE sb km b o e0 w9 := by
        have f1 : ∀ j, w9.cell? ⟨sb, j, none⟩ = w8.cell? ⟨sb, j, none⟩ := fun j => World.cell?_of_block (w := w8) (a := ⟨sb, j, none⟩) (hO9.block sb hT8.blk.lt hkms)
        have f2 : ∀ j, w9.cell? ⟨b, j, none⟩ = w8.cell? ⟨b, j, none⟩ := fun j => World.cell?_of_block (w := w8) (a := ⟨b, j, none⟩) (hO9.block b (lt_of_cell hE.v) hkmb)
        exact ⟨(f1 _).trans hE.k, (f2 _).trans hE.v, (f2 _).trans hE.a, (f2 _).trans hE.bb, (f2 _).trans hE.c⟩
       try go_simp
       dsimp only [wpList, SegQ]
       refine ⟨fun w' => ∃ d : Wd (ApE sb km b o e0), w' = d.w, ClsW.mk (D := ApE sb km b o e0) hE9, fun _ h => h, ?_⟩
       unfold wpMix; simp only [pick, List.filterMap_nil]
       (repeat (show wpQuiet _ _ _ _ (_ :: _) _; go_big_quiet_step (fail))); refine qn ?_
       have hO92 : Only (fun g => g = km) w8 w9 := (jo (jb _ w8).drew).tr hO9
       have hT9 : TSAt w9 ⟨sb, .slice A1 (ts0.events.length + l.length) c1, km⟩ ⟨ts0.events ++ l, putA k ⟨k, e0.version, e0.stamp⟩ ts0.keys⟩ := by
        refine ⟨hT8.blk.only hO92 hkms, hT8.ev.only hO92 (fun _ h => h.elim) (fun g hg h => ?_), ?_, putA_nodup hT8.nd, fun p hp => ?_⟩
        ·exact (hT8.not_map hT8.km).2 (h ▸ hg)
        ·rw [assocPut_eq] at hM9
         have := putA_map (fun x : Known => x.val) k ⟨k, e0.version, e0.stamp⟩ ts0.keys
         rw [← this]
         exact hM9
        ·rcases putA_mem' hT8.nd hp with rfl | hp
         ·exact ⟨⟨hksf, HF.out.2.1, HF.out.2.2.2.1⟩, hksf⟩
         ·exact hT8.fit p hp.1
       have hA9 := hA8.turn (P' := fun g => P g ∨ w.heap.size ≤ g) hgq (hO92.mono (fun g h => .inr (.inl h))) hT9 rfl rfl (fun g hg => .inl hg) (fun g h => h) (fun g h => .inr (by have := HX8.out.2.2.1.size; omega))
       rw [putA_put] at hA9
       have hB9 := HX8.out.2.1.only hO92 (fun e => hT8.km.not_cells HX8.out.2.1 e.symm)
       have hkmP := (hA8.each _ (getA_mem hgq)).2.2.1.km
       have hO99 : Only P w w9 := HX8.out.2.2.1.trans hO92 (fun g hl h => by
        subst h
        rcases hkmP with h1 | h1
        ·exact h1
        ·simp only at h1; omega)
       have HZZ := jh (HFIN.out w9 _ hA9 hB9 hO99 (by unfold addKey; rw [if_pos ⟨by rw [HKQ.out]; rfl, HKE.out⟩]))
       clear hA9 hB9 hO99 hT9 hO92 hE9 hM9 hO9 hE hT8 hA8 hgq y1 y2 y3 y4 y5 hKM8 hkmP
       go_wp2_with fail
       go_ret
       exact HZZ.out
theorem append_any (tb : Nat) (T : Tab) (k : Str) (A : Option Addr) (c : Nat) (l : List Event) (P Q : Nat → Prop) (w : World) (h : TabAt w P tb T) (hr : EventR.Row w Q A l) (hPQ : ∀ g, Q g → ¬ P g) (hl : l.length ≤ 40000) (hk : sfit k) (hev : ∀ n, versionT T n ≤ 40000) (hT : Tabs w) (h2 : 2 ≤ w.heap.size) :
 Calls Tryz.prog 257 #[ptrV tb, .string k, .slice A l.length c] w (AppendOut w P tb T k l) := by
 by_cases h0 : (appendT k l T).2 = 0
 ·exact append_yes tb T k A c l P Q w h hr hPQ hl hk hev hT h2 h0
 ·exact append_no tb T k A c l P Q w h hr hl hk hev hT h2 h0
end Go.Proofs.YtcmjgghkmdbphaaGreatDoor
namespace Go.Proofs.YtcmjgghkmdbphaaGreatDoor
open Go.RowKit
theorem begin_any (n k : Int) (b : Nat) (w : World) (hb : w.cell? ⟨b, 0, none⟩ = some (.int .i64 n)) (hn : 1 ≤ n ∧ n ≤ 5) (hk : 0 ≤ k ∧ k ≤ 5) : Calls Tryz.prog 170 #[.int .i64 k, .pointer (some ⟨b, 0, none⟩)] w fun e w' => e = .returned (.int .i64 (beginR n k)) ∧ w = w' := by
 obtain ⟨n1, n2⟩ := hn
 obtain ⟨k1, k2⟩ := hk
 have h1 : wrap64 (k * 4294967296) = k * 4294967296 := wrap_in _ (by omega)
 have hn0 : (n == 0) = false := by rw [beq_eq_false_iff_ne]; omega
 go_enter Tryz.func170, Tryz.ntmps170
 go_wp2
 go_ret
 exact ⟨rfl, rfl⟩
theorem begin_bd (n k : Int) (hn : 1 ≤ n ∧ n ≤ 5) (hk : 0 ≤ k ∧ k ≤ 5) : 0 ≤ beginR n k ∧ beginR n k ≤ 21474836480 := by
 unfold beginR
 refine ⟨Int.ediv_nonneg (by omega) (by omega), ?_⟩
 exact Int.le_trans (Int.ediv_le_self _ (by omega)) (by omega)
def GotRing (B : Nat) (n : Int) (e : Ending) (w' : World) : Prop := ∃ v, e = .returned (.tuple #[v, .int .i64 (newR n).2]) ∧ RangeR.Own w' B 27 (fun _ => False) v (newR n).1
theorem newRing_any (n : Int) (w : World) : Calls Tryz.prog 83 #[.int .i64 n] w fun e w' => GotRing w.heap.size n e w' ∧ Below w.heap.size w w' := by
 by_cases hn : n < 1 ∨ 5 < n
 ·have HE := jh (show newR n = ([], 1) from by unfold newR; rw [if_pos hn])
  have hn1 : n < 1 ∨ (decide (n < 1) = false ∧ 5 < n) := by
   by_cases h : n < 1
   ·exact .inl h
   ·exact .inr ⟨jd h, by omega⟩
  clear hn
  rcases hn1 with h | ⟨h, h'⟩
  ·go_enter Tryz.func83, Tryz.ntmps83
   go_wp2_with fail
   go_ret2
   exact ⟨⟨_, by rw [HE.out]; rfl, by rw [HE.out]; exact Rep.Own.nil_⟩, (jb _ _).al _⟩
  ·go_enter Tryz.func83, Tryz.ntmps83
   go_wp2_with fail
   go_ret2
   exact ⟨⟨_, by rw [HE.out]; rfl, by rw [HE.out]; exact Rep.Own.nil_⟩, (jb _ _).al _⟩
 ·have HE := jh (show newR n = ((List.range n.toNat).map (newRange n), 0) from by unfold newR; rw [if_neg hn])
  obtain ⟨N, rfl⟩ : ∃ N : Nat, n = N := ⟨n.toNat, by omega⟩
  have hN : 1 ≤ N ∧ N ≤ 5 := by omega
  have h1 : decide ((N : Int) < 1) = false := jd (by omega)
  have h2 : decide ((5 : Int) < (N : Int)) = false := jd (by omega)
  have B0 := Blk.new w 3 [.int .i64 (N : Int)]
  have hw0 := (jb w.heap.size w).al (.cells #[.int .i64 (N : Int)] 3)
  clear hn
  go_enter Tryz.func83, Tryz.ntmps83
  go_upto_region 5 with fail
  have hz : (w.alloc (.cells #[.int .i64 (N : Int)] 3)).heap.size = w.heap.size + 1 := by simp
  generalize (w.alloc (.cells #[.int .i64 (N : Int)] 3)) = w0 at *
  obtain ⟨N1, N2⟩ := hN
  go_loopw [2, 14] (fun out i wr => ∃ k : Nat, k ≤ N ∧ i = .int .i64 k ∧ RangeR.Own wr w0.heap.size 27 (fun _ => True) out ((List.range k).map (newRange N)) ∧ Below w0.heap.size w0 wr) (fun _ i _ => N - (intOf i).toNat)
  case atStart => exact ⟨0, Nat.zero_le _, rfl, by simpa using Rep.Own.nil_, jb _ _⟩
  case round =>
   obtain ⟨k, hk, rfl, hout, hbl⟩ := hrel
   by_cases hlt : k < N
   ·have hlt' : (k : Int) < (N : Int) := by omega
    have bd1 := begin_bd N k (by omega) (by omega)
    have bd2 := begin_bd N (k + 1) (by omega) (by omega)
    have b0 : wr.cell? ⟨w.heap.size, 0, none⟩ = some (.int .i64 (N : Int)) := (B0.below hbl (by omega)).cell 0
    have C1 := begin_any N k w.heap.size wr b0 (by omega) (by omega)
    have C2 := begin_any N (k + 1) w.heap.size wr b0 (by omega) (by omega)
    have hlen : ((List.range k).map (newRange (N : Int))).length = k := by simp
    obtain ⟨Ao, co, hu, _⟩ := hout.form
    rw [hlen] at hu
    subst hu
    have hrx : RangeR.rep wr (fun _ => False) [.int .i64 (beginR N k), .int .i64 (beginR N (k + 1) - 1), .int .i64 ((k : Int) + 1), .int .i64 1] (newRange N k) :=
     range_rep.2 ⟨rfl, show i64 (beginR N k) from ⟨by omega, by omega⟩, show i64 (beginR N (k + 1) - 1) from ⟨by omega, by omega⟩, show i64 ((k : Int) + 1) from ⟨by omega, by omega⟩, show i64 1 from ⟨by omega, by omega⟩⟩
    obtain ⟨i0, e1, e2, e3, e4⟩ := info_parts range_info
    have hwz := hbl.size
    have HBL := jh hbl
    obtain ⟨bd11, bd12⟩ := bd1
    obtain ⟨bd21, bd22⟩ := bd2
    clear hbl
    go_wp2_with fail
    refine C1.mono ?_
    clear C1
    rintro e w' ⟨rfl, rfl⟩
    go_wp2_with fail
    refine C2.mono ?_
    clear C2 b0
    rintro e w' ⟨rfl, rfl⟩
    go_wp2_with (first
     | (at_builtin; refine wpList_append_new (R := RangeR) wr rfl (.tmp 17) (.tmp 29) _ rfl w0.heap.size 27 i0 _ 32 Tryz.underlying58 e1 e2 e3 e4 rfl _ ((List.range k).map (newRange (N : Int))) (fun _ => True) rfl hout (fun _ _ => trivial) rfl (fun _ => False) _ hrx (fun _ h => h.elim) (by unfold maxLen; omega) (by omega) hwz ?_; intro v1 w6 ho1 hg1 hat1 hn1 hb6)
     | fail)
    go_round
    case rel =>
     refine ⟨k + 1, by omega, by go_num, ?_, HBL.out.trans hb6⟩
     rw [List.range_succ, List.map_append]
     exact ho1
    case measure => simp [intOf]; omega
   ·have hkn : k = N := by omega
    subst hkn
    go_wp2_with fail
    go_ret2
    refine ⟨⟨_, by rw [HE.out]; rfl, ?_⟩, hw0.trans (hbl.mono (by omega))⟩
    rw [HE.out]
    exact (hout.plain range_plain).base' (by omega)
end Go.Proofs.YtcmjgghkmdbphaaGreatDoor
namespace Go.Proofs.YtcmjgghkmdbphaaGreatDoor
open Go.RowKit
theorem gone_any (g : Nat) (n : Int) (w : World) (hb : w.cell? ⟨g, 0, none⟩ = some (.int .i64 n)) (hn : n ≠ 0) : Calls Tryz.prog 86 #[ptrV g] w fun e w' => e = .returned (.bool false) ∧ w = w' := by
 have h0 : (n == 0) = false := by rw [beq_eq_false_iff_ne]; exact hn
 clear hn
 unfold ptrV
 go_enter Tryz.func86, Tryz.ntmps86
 go_wp2
 go_ret
 exact ⟨rfl, rfl⟩
def GotState (B : Nat) (self nodes : Int) (e : Ending) (w' : World) : Prop := match newS self nodes with
 | none => e = .returned (.tuple #[.pointer none, .int .i64 1])
 | some st => ∃ g, e = .returned (.tuple #[ptrV g, .int .i64 0]) ∧ B ≤ g ∧ StAt w' (fun k => B ≤ k ∧ k ≠ g) g st ∧ w'.cell? ⟨g, 6, none⟩ = some (.map none)
theorem newR_err (n : Int) : (newR n).2 = if n < 1 ∨ 5 < n then 1 else 0 := by unfold newR; split <;> rfl
theorem newState_any (self nodes : Int) (w : World) (h1 : i64 self) (h2 : i64 nodes) : Calls Tryz.prog 17 #[.int .i64 self, .int .i64 nodes] w fun e w' => GotState w.heap.size self nodes e w' ∧ Below w.heap.size w w' := by
 have C := newRing_any nodes w
 unfold GotRing at C
 rw [newR_err] at C
 have H12 := jh (ja h1 h2)
 clear h1 h2
 by_cases hn : nodes < 1 ∨ 5 < nodes
 ·have HN := jh (show newS self nodes = none from by unfold newS; rw [if_pos (by omega)])
  rw [if_pos hn] at C
  clear hn
  go_enter Tryz.func17, Tryz.ntmps17
  go_wp2_with fail
  refine C.mono ?_
  clear C
  rintro e w1 ⟨⟨v, rfl, _⟩, hb1⟩
  go_wp2_with fail
  go_ret2
  exact ⟨by unfold GotState; rw [HN.out]; rfl, hb1⟩
 rw [if_neg hn] at C
 by_cases hs : self < 1 ∨ nodes < self
 ·have HN := jh (show newS self nodes = none from by unfold newS; rw [if_pos (by omega)])
  have hs' : self < 1 ∨ (decide (self < 1) = false ∧ nodes < self) := by
   by_cases h : self < 1
   ·exact .inl h
   ·exact .inr ⟨jd h, by omega⟩
  clear hn hs
  rcases hs' with h | ⟨h, h'⟩
  ·go_enter Tryz.func17, Tryz.ntmps17
   go_wp2_with fail
   refine C.mono ?_
   clear C
   rintro e w1 ⟨⟨v, rfl, _⟩, hb1⟩
   go_wp2_with fail
   go_ret2
   exact ⟨by unfold GotState; rw [HN.out]; rfl, hb1⟩
  ·go_enter Tryz.func17, Tryz.ntmps17
   go_wp2_with fail
   refine C.mono ?_
   clear C
   rintro e w1 ⟨⟨v, rfl, _⟩, hb1⟩
   go_wp2_with fail
   go_ret2
   exact ⟨by unfold GotState; rw [HN.out]; rfl, hb1⟩
 have HN := jh (show newS self nodes = some ⟨self, nodes, 0, 0, (newR nodes).1, [], [], [], [], [], []⟩ from by unfold newS; rw [if_neg (by omega)])
 have h3 : decide (self < 1) = false := jd (by omega)
 have h4 : decide (nodes < self) = false := jd (by omega)
 clear hn hs
 go_enter Tryz.func17, Tryz.ntmps17
 go_wp2_with fail
 refine C.mono ?_
 clear C
 rintro e w1 ⟨⟨v, rfl, ho⟩, hb1⟩
 have C2 := tnew_any w1
 have hlv := ho.lt
 obtain ⟨A, c, rfl, hc1, hc2⟩ := ho.form
 go_wp2_with fail
 refine C2.mono ?_
 clear C2
 rintro e w2 ⟨rfl, rfl⟩
 unfold ptrV
 go_wp2_with fail
 go_ret2
 have hz1 := hb1.size
 refine ⟨?_, (hb1.al _).al _⟩
 unfold GotState
 rw [HN.out]
 refine ⟨w1.heap.size + 1, by simp [ptrV], by omega, ⟨⟨.slice A (newR nodes).1.length c, w1.heap.size, .map none, .map none, .map none, .slice none 0 0, .slice none 0 0⟩, ?_, ?_⟩, ?_⟩
 ·exact Blk.new1 w1 _ 176 _
 ·have hk : Below w1.heap.size w1 ((w1.alloc (.cells #[.map none] 252)).alloc (.cells #[.int .i64 self, .int .i64 nodes, .int .i64 0, .int .i64 0, .slice A (newR nodes).1.length c, .pointer (some ⟨w1.heap.size, 0, none⟩), .map none, .map none, .map none, .slice none 0 0, .slice none 0 0] 176)) := ((jb _ _).al _).al _
  refine ⟨⟨H12.out.1, H12.out.2, show i64 0 from ⟨by omega, by omega⟩, show i64 0 from ⟨by omega, by omega⟩⟩, ⟨A, c, rfl, hc1, hc2, (ho.ext hk).row' range_plain (fun g hg => ⟨(hlv g hg).1, by have := (hlv g hg).2; omega⟩)⟩, ?_, MpAt.nil_, MpAt.nil_, MpAt.nil_, ⟨none, 0, rfl, Nat.le_refl _, by omega, Rep.Row.nil_⟩, ⟨none, 0, rfl, Nat.le_refl _, by omega, Rep.Row.nil_⟩⟩
  exact ((TabAt.new w1).ext ((jb _ _).al _)).mono (fun g hg => ⟨by omega, by omega⟩)
 ·exact (Blk.new1 w1 (.cells #[.map none] 252) 176 [.int .i64 self, .int .i64 nodes, .int .i64 0, .int .i64 0, .slice A (newR nodes).1.length c, .pointer (some ⟨w1.heap.size, 0, none⟩), .map none, .map none, .map none, .slice none 0 0, .slice none 0 0]).cell 6
theorem serves_any (g : Nat) (s : St) (n : Str) (P : Nat → Prop) (w : World) (h : StAt w P g s) (hl : s.ring.length ≤ 1000000) (hn : sfit n) : Calls Tryz.prog 111 #[ptrV g, .string n] w fun e w' => e = .returned (.bool (servesS s n)) ∧ Below w.heap.size w w' := by
 obtain ⟨v, hB, hI⟩ := h
 have b0 : w.cell? ⟨g, 0, none⟩ = some (.int .i64 s.self) := hB.cell 0
 have b4 : w.cell? ⟨g, 4, none⟩ = some v.ring := hB.cell 4
 obtain ⟨A, c, hv, _, _, hrow⟩ := hI.ring
 obtain rfl' : v.ring = .slice A s.ring.length c := by injection hv
 rw [rfl'] at b4
 have C := of_any A c s.ring n P w hrow hl hn
 have HB := jh hB
 have HV := jh (show servesS s n = ((ofR s.ring n).2 && decide ((ofR s.ring n).1.owner = s.self)) from rfl)
 unfold Found at C
 unfold ptrV
 clear hB hI hv rfl' hrow hn
 generalize hq : ofR s.ring n = q at *
 have HQ := jh hq
 clear hq
 obtain ⟨x, b⟩ := q
 go_enter Tryz.func111, Tryz.ntmps111
 go_upto_region 2 with (first
  | (refine C.mono ?_; rintro e w1 ⟨rfl, hb1⟩)
  | fail)
 clear b0 b4
 have hw2 := hb1.al (.cells #[.int .i64 x.first, .int .i64 x.last, .int .i64 x.owner, .int .i64 x.epoch] 27)
 have x2 := On.cell ((Blk.new w1 27 [.int .i64 x.first, .int .i64 x.last, .int .i64 x.owner, .int .i64 x.epoch]).cell 2)
 have b0 := On.cell ((HB.out.ext hw2).cell 0 : _ = some (.int .i64 s.self))
 generalize (w1.alloc (.cells #[.int .i64 x.first, .int .i64 x.last, .int .i64 x.owner, .int .i64 x.epoch] 27)) = w2 at *
 cases b
 ·refine wp_region_mix (.leaf [0, 1, 2, 3, 4, 5, 6, 7, 8, 9, 10]) (fun w' => ∃ d : Wd (On w2), w' = d.w) (by kernel_rfl) (by kernel_rfl) (fun _ _ d _ _ h => by cases d <;> exact h) (ClsW.mk (jb _ _).drew) ?_
  unfold wpMix; simp only [pick, j1, j2, j3, j4]
  (repeat (show wpQuiet _ _ _ _ (_ :: _) _; go_big_quiet_step (fail))); refine qn ?_
  go_wp2_with fail
  go_ret
  exact ⟨ret_bool (by rw [HV.out]; rfl), hw2.drew⟩
 ·by_cases ho : x.owner = s.self
  ·have HO := jh ho
   have g1 : (x.owner == s.self) = true := by rw [beq_iff_eq]; exact ho
   clear ho
   refine wp_region_mix (.leaf [0, 1, 2, 3, 4, 5, 6, 7, 8, 9, 10]) (fun w' => ∃ d : Wd (On w2), w' = d.w) (by kernel_rfl) (by kernel_rfl) (fun _ _ d _ _ h => by cases d <;> exact h) (ClsW.mk (jb _ _).drew) ?_
   unfold wpMix; simp only [pick, j1, j2, j3, j4]
   (repeat (show wpQuiet _ _ _ _ (_ :: _) _; go_big_quiet_step (fail))); refine qn ?_
   go_wp2_with fail
   go_ret
   exact ⟨ret_bool (by rw [HV.out]; simp [HO.out]), hw2.drew⟩
  ·have HO := jh ho
   have g1 : (x.owner == s.self) = false := by rw [beq_eq_false_iff_ne]; exact ho
   clear ho
   refine wp_region_mix (.leaf [0, 1, 2, 3, 4, 5, 6, 7, 8, 9, 10]) (fun w' => ∃ d : Wd (On w2), w' = d.w) (by kernel_rfl) (by kernel_rfl) (fun _ _ d _ _ h => by cases d <;> exact h) (ClsW.mk (jb _ _).drew) ?_
   unfold wpMix; simp only [pick, j1, j2, j3, j4]
   (repeat (show wpQuiet _ _ _ _ (_ :: _) _; go_big_quiet_step (fail))); refine qn ?_
   go_wp2_with fail
   go_ret
   exact ⟨ret_bool (by rw [HV.out]; simp [HO.out]), hw2.drew⟩
end Go.Proofs.YtcmjgghkmdbphaaGreatDoor
namespace Go.Proofs.YtcmjgghkmdbphaaGreatDoor
open Go.RowKit
def BusyOk (g : Nat) (s : St) (w : World) : Prop := ∀ (n : Str) (W : World), sfit n → Below w.heap.size w W → Calls Tryz.prog 112 #[ptrV g, .string n] W fun e w' => e = .returned (.bool (busyS s n)) ∧ Below W.heap.size W w'
end Go.Proofs.YtcmjgghkmdbphaaGreatDoor
