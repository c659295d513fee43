/- table.Append: events put behind a stream's. ring.New, state.New, gone. state: gone, New, Version, serves. state: busy of a state that holds nothing; known. state: known. -/
import Derived.Test.YtpgocpodhamibaaGreatDoorNK06
import Derived.Deep.DeepCutAuto
import Derived.Test.YtpgocpodhamibaaGreatDoorNK05
import Derived.Test.YtpgocpodhamibaaGreatDoorNK03
import Derived.Laws.StructEq
namespace Go.Proofs.YtpgocpodhamibaaGreatDoor
open Go.RowKit
theorem appendT_yes {k : Str} {l : List Event} {T : Tab} (h : (appendT k l T).2 = 0) : ∃ e0, l[0]? = some e0 ∧ alikeB l = true ∧ keyB k = true ∧ goesB l (versionT T e0.stream) = true := by
 cases l with
 | nil => cases h
 | cons e l =>
   refine ⟨e, rfl, ?_⟩
   cases h1 : alikeB (e :: l)
   ·rw [appendT_1 (.inr (.inl h1))] at h; cases h
   cases h2 : keyB k
   ·rw [appendT_1 (.inr (.inr h2))] at h; cases h
   cases h3 : goesB (e :: l) (versionT T e.stream)
   ·rw [appendT_5 rfl h1 h2 h3] at h; cases h
   exact ⟨rfl, rfl, rfl⟩
structure ApD (tb m b o : Nat) (n : Str) (W : World) : Prop where
 t : W.cell? ⟨tb, 0, none⟩ = some (.map (some m))
 e : W.cell? ⟨b, o, none⟩ = some (.string n)
theorem ApD.t' {tb m b o : Nat} {n : Str} (d : Wd (ApD tb m b o n)) : d.w.cell? ⟨tb, 0, none⟩ = some (.map (some m)) := d.ok.t
theorem ApD.e' {tb m b o : Nat} {n : Str} (d : Wd (ApD tb m b o n)) : d.w.cell? ⟨b, o, none⟩ = some (.string n) := d.ok.e
structure ApE (sb km b o : Nat) (e : Event) (W : World) : Prop where
 k : W.cell? ⟨sb, 1, none⟩ = some (.map (some km))
 v : W.cell? ⟨b, o + 1, none⟩ = some (.int .i64 e.version)
 a : W.cell? ⟨b, o + 3, none⟩ = some (.int .i64 e.stamp.wall)
 bb : W.cell? ⟨b, o + 4, none⟩ = some (.int .i64 e.stamp.logic)
 c : W.cell? ⟨b, o + 5, none⟩ = some (.int .i64 e.stamp.node)
section
variable {sb km b o : Nat} {e : Event}
theorem ApE.k' (d : Wd (ApE sb km b o e)) : d.w.cell? ⟨sb, 1, none⟩ = some (.map (some km)) := d.ok.k
theorem ApE.v' (d : Wd (ApE sb km b o e)) : d.w.cell? ⟨b, o + 1, none⟩ = some (.int .i64 e.version) := d.ok.v
theorem ApE.a' (d : Wd (ApE sb km b o e)) : d.w.cell? ⟨b, o + 3, none⟩ = some (.int .i64 e.stamp.wall) := d.ok.a
theorem ApE.b' (d : Wd (ApE sb km b o e)) : d.w.cell? ⟨b, o + 4, none⟩ = some (.int .i64 e.stamp.logic) := d.ok.bb
theorem ApE.c' (d : Wd (ApE sb km b o e)) : d.w.cell? ⟨b, o + 5, none⟩ = some (.int .i64 e.stamp.node) := d.ok.c
end
theorem StrsAt.nil_ {w : World} {P : Nat → Prop} {m : Nat} (h : MapAt strE w m []) : StrsAt w P m [] := ⟨h, by simp, by simp, List.Pairwise.nil⟩
set_option maxRecDepth 20000 in
set_option maxHeartbeats 3200000 in
theorem append_yes (tb : Nat) (T : Tab) (k : Str) (A : Option Addr) (c : Nat) (l : List Event) (P Q : Nat → Prop) (w : World) (h : TabAt w P tb T) (hr : EventR.Row w Q A l) (hPQ : ∀ g, Q g → ¬ P g) (hl : l.length ≤ 40000) (hk : sfit k) (hev : ∀ n, versionT T n ≤ 40000) (hT : Tabs w) (h2 : 2 ≤ w.heap.size)
 (hyes : (appendT k l T).2 = 0) : Calls Tryz.prog 227 #[ptrV tb, .string k, .slice A l.length c] w (AppendOut w P tb T k l) := by
 obtain ⟨e0, hl0, hal, hkb, hgo⟩ := appendT_yes hyes
 have hmm := @run_makeMap Tryz.prog
 have CA := alike_any A c l Q w hr (by omega) hT h2
 rw [hal] at CA
 have HT := jh h
 have HR := jh hr
 have CK := fun W (hb : Below w.heap.size w W) => keyF k W hk (hT.below hb)
 rw [hkb] at CK
 have HEVL := jh (show ∀ ts, getA e0.stream T = some ts → ts.events.length ≤ 40000 from fun ts h => by
  have := hev e0.stream
  unfold versionT at this
  rw [h] at this
  simp only at this; omega)
 have hv0 : 0 ≤ versionT T e0.stream := by unfold versionT; split <;> omega
 have hvv := hev e0.stream
 have CV := fun W (hb : Below w.heap.size w W) => version_any tb T e0.stream P W (h.ext hb)
 have CG := fun W (hb : Below w.heap.size w W) => goes_any A c l (versionT T e0.stream) Q W (hr.ext hb) (by omega) (by omega)
 rw [hgo] at CG
 have HAP := jh (appendT_0 hl0 hal hkb hgo)
 have HL0 := jh hl0
 have hll : 0 < l.length := (List.getElem?_eq_some_iff.1 hl0).1
 have hl0' : ((l.length : Int) == 0) = false := by rw [beq_eq_false_iff_ne]; omega
 have hll' : (0 : Int) < l.length := by omega
 have HPQ := jh hPQ
 have hksf := hk
 clear h hr hev hk hyes hl0 hal hkb hgo hPQ
 unfold ptrV at CV ⊢
 go_enter Tryz.func227, Tryz.ntmps227
 go_wp2_with fail
 refine CA.mono ?_
 clear CA
 rintro e w1 ⟨rfl, hb1⟩
 go_wp2_with fail
 refine (CK w1 hb1).mono ?_
 clear CK
 rintro e w2 ⟨rfl, hb2⟩
 obtain ⟨b, o, cs, rfl, hP, hbw, hrep, hcs⟩ := (HR.out.ext (hb1.tr hb2)).at_ HL0.out
 obtain ⟨rfl, hf⟩ := event_rep.1 hrep
 have c0 := hcs 0 _ rfl
 simp only [EventR_size, Nat.zero_mul, Nat.add_zero] at c0
 clear hcs hrep
 go_wp2_with fail
 refine (CV w2 (hb1.tr hb2)).mono ?_
 clear CV
 rintro e w2' ⟨rfl, rfl⟩
 go_wp2_with fail
 refine (CG w2 (hb1.tr hb2)).mono ?_
 clear CG c0
 rintro e w3 ⟨rfl, hb3⟩
 have hw3 := (hb1.tr hb2).tr hb3
 have hz3 := hw3.size
 have HFN := jh (show sfit e0.stream from hf.1)
 have HF := jh hf
 clear hb1 hb2 hb3 hbw hf
 obtain ⟨mp, c0, HC⟩ : ∃ mp : Option Nat, w3.cell? ⟨tb, 0, none⟩ = some (.map mp) ∧ Hid ((mp = none ∧ Blk w3 tb 217 [.map none] ∧ T = []) ∨ ∃ m TA, mp = some m ∧ Blk w3 tb 217 [.map (some m)] ∧ P m ∧ StrsAt w3 P m TA ∧ T = TabA.tab TA) := by
  obtain ⟨_, ⟨h1, h2⟩ | ⟨m, TA, h1, h2, h3, h4⟩⟩ := HT.out.ext hw3
  ·exact ⟨none, h1.cell 0, jh (.inl ⟨rfl, h1, h2⟩)⟩
  ·exact ⟨some m, h1.cell 0, jh (.inr ⟨m, TA, rfl, h1, h2, h3, h4⟩)⟩
 have htl : P tb ∧ tb < w.heap.size := ⟨HT.out.1, HT.out.lt⟩
 have hqq := fun W => run_eql_map_nil_sl (P := Tryz.prog) W 215 _ _ mp Tryz.underlying215
 go_upto_if 42 with fail
 clear hqq c0
 go_cut [] (fun wx => ∃ m TA, Blk wx tb 217 [.map (some m)] ∧ (P m ∨ w.heap.size ≤ m) ∧ StrsAt wx (fun g => P g ∨ w.heap.size ≤ g) m TA ∧ T = TabA.tab TA ∧ Only P w wx)
 case first =>
  rcases HC.out with ⟨rfl, hB, hTe⟩ | ⟨m, TA, rfl, hB, hm, hA, hTe⟩
  ·have HB := jh (ja hB hTe)
   have f0 : w3.frozen? ⟨tb, 0, none⟩ = false := hB.frozen 0
   have c0 : w3.cell? ⟨tb, 0, none⟩ = some (.map none) := hB.cell 0
   have htl3 : tb < w3.heap.size := hB.lt
   clear hB hTe
   go_wp2_with fail
   go_meet
   have hMN := MapAt.new (enc := strE) (w3.setCell ⟨tb, 0, none⟩ (.map (some w3.heap.size)))
   simp only [World.size_setCell] at hMN
   exact ⟨w3.heap.size, [], (HB.out.1.set_ 0 _).alloc _, .inr hz3, StrsAt.nil_ hMN, HB.out.2, ((Only.of_below hw3).tr (Only.set_ (p := ⟨tb, 0, none⟩) htl.1 _)).tr (Only.alloc _)⟩
  ·have HB := jh (ja hB (ja hm (ja hA hTe)))
   clear hB hm hA hTe
   go_wp2_with fail
   go_meet
   exact ⟨m, TA, HB.out.1, .inl HB.out.2.1, HB.out.2.2.1.mono (fun g h => .inl h), HB.out.2.2.2, Only.of_below hw3⟩
 case rest =>
  obtain ⟨m, TA, hB, hm, hA, hTe, hO⟩ := hcut
  have hrow := HR.out.same (Same.of_only hO (fun g hq => HPQ.out g hq)) hO.size
  obtain ⟨b', o', cs, he, hP', hbw, hrep, hcs⟩ := hrow.at_ HL0.out
  obtain ⟨rfl, rfl⟩ : b = b' ∧ o = o' := by simpa using he
  obtain ⟨rfl, _⟩ := event_rep.1 hrep
  have y0 := On.cell (hcs 0 _ rfl)
  have y1 := On.cell (hB.cell 0 : wc.cell? ⟨tb, 0, none⟩ = some (.map (some m)))
  simp only [EventR_size, Nat.zero_mul, Nat.add_zero] at y0
  have hlk := fun d : Wd (On wc) => run_lookup_map strKey Tryz.underlying215 (hA.map.ext d.ok) e0.stream _ (zero_sptr d.w) false
  have hpg := ptrs_get TA e0.stream
  rw [← assocOf_eq] at hpg
  rw [if_neg (by simp), hpg] at hlk
  have HA := jh (ja hB (ja hm (ja hA (ja hTe hO))))
  have HROW := jh hrow
  clear hcs hrep he hpg hB hm hA hTe hO hrow
  have htn : getA e0.stream T = (getA e0.stream TA).map (·.1) := by rw [HA.out.2.2.2.1, tab_get]
  have hvt := HEVL.out
  have htn : getA e0.stream T = (getA e0.stream TA).map (·.1) := by rw [HA.out.2.2.2.1, tab_get]
  have hvt := HEVL.out
  have htn : getA e0.stream T = (getA e0.stream TA).map (·.1) := by rw [HA.out.2.2.2.1, tab_get]
  have hvt := HEVL.out
  have htn : getA e0.stream T = (getA e0.stream TA).map (·.1) := by rw [HA.out.2.2.2.1, tab_get]
  have hvt := HEVL.out
  have htn : getA e0.stream T = (getA e0.stream TA).map (·.1) := by rw [HA.out.2.2.2.1, tab_get]
  have hvt := HEVL.out
  have htn : getA e0.stream T = (getA e0.stream TA).map (·.1) := by rw [HA.out.2.2.2.1, tab_get]
  have hvt := HEVL.out
  cases hq : getA e0.stream TA with
  | none =>
    have HTN := jh (show getA e0.stream T = none from by rw [htn, hq]; rfl)
    have HQ := jh hq
    rw [hq] at hlk
    simp only [Option.map_none, Option.getD_none] at hlk
    clear hq htn
    go_upto_region 7 with fail
    refine wp_region_mix (.leaf [0, 1, 2, 3, 4, 5, 6, 7, 8, 9]) (fun w' => ∃ d : Wd (On wc), w' = d.w) (by kernel_rfl) (by kernel_rfl) (fun _ _ d _ _ h => by cases d <;> exact h) (ClsW.mk (jb _ _).drew) ?_
    unfold wpMix; simp only [pick, j1, j2, j3, j4]
    (repeat (show wpQuiet _ _ _ _ (_ :: _) _; go_big_quiet_step (fail))); refine qn ?_
    clear y0 y1 hlk
    go_upto_region 10 with fail
    have hB1 := (jb wc.heap.size wc).al (.map #[] 0)
    have hM1 := (MapAt.new (enc := strE) wc).alloc (.cells #[.slice none 0 0, .map (some wc.heap.size)] 241)
    have hK1 := Blk.new1 wc (.map #[] 0) 241 [.slice none 0 0, .map (some wc.heap.size)]
    refine forget (M := fun W => Code.wp _ _ _ _ W) (fun W => Below wc.heap.size wc W ∧ Blk W (wc.heap.size + 1) 241 [.slice none 0 0, .map (some wc.heap.size)] ∧ MapAt strE W wc.heap.size []) ⟨(hB1.al _).drew, hK1.drew, hM1.drewN 1⟩ ?_
    clear hB1 hM1 hK1
    rintro wD ⟨hbD, hKD, hMD⟩
    have hD : ApD tb m b o e0.stream wD := ⟨(HA.out.1.ext hbD).cell 0, by
     obtain ⟨b', o', cs, he, _, _, hrep, hcs⟩ := (HROW.out.ext hbD).at_ HL0.out
     obtain ⟨rfl, rfl⟩ : b = b' ∧ o = o' := by simpa using he
     obtain ⟨rfl, _⟩ := event_rep.1 hrep
     have := hcs 0 _ rfl
     simpa only [EventR_size, Nat.zero_mul, Nat.add_zero] using this⟩
    have hne : m ≠ tb ∧ m ≠ b := by
     refine ⟨fun e => ?_, fun e => ?_⟩
     ·have := HA.out.2.2.1.map.not_cells HA.out.1; exact this e
     ·have := (HA.out.2.2.1.map.ext hbD).cells? o; rw [e, hD.e] at this; cases this
    haveI : Nonempty (Wd (ApD tb m b o e0.stream)) := ⟨⟨wD, hD⟩⟩
    have y1 := ApD.t' (tb := tb) (m := m) (b := b) (o := o) (n := e0.stream)
    have y0 := ApD.e' (tb := tb) (m := m) (b := b) (o := o) (n := e0.stream)
    have hMm := HA.out.2.2.1.map.ext hbD
    refine wp_region_mix (.seg [0, 1, 2, 3, 4, 5, 6, 7, 8] 9 (.leaf [])) (fun w' => ∃ d : Wd (ApD tb m b o e0.stream), w' = d.w) (by kernel_rfl) (by kernel_rfl) (fun _ _ d _ _ h => by cases d <;> exact h) (ClsW.mk (D := ApD tb m b o e0.stream) ⟨hD.t, hD.e⟩) ?_
    unfold wpMix; simp only [pick, j1, j2, j3, j4]
    (repeat (show wpQuiet _ _ _ _ (_ :: _) _; go_big_quiet_step (fail))); refine qn ?_
    refine wpList_mapUpdate_map strKey rfl rfl (.tmp 64) (.tmp 68) (.tmp 69) 215 rfl Tryz.underlying215 rfl (hMm.drewN 1) e0.stream rfl (ptrV (wc.heap.size + 1)) rfl ?_
    intro wB hMB hOD
    have hD' : ApD tb m b o e0.stream wB := ⟨(World.cell?_of_block (w := wD) (hOD.block tb (HA.out.1.ext hbD).lt (fun e => hne.1 e.symm))).trans hD.t, (World.cell?_of_block (w := wD) (hOD.block b (lt_of_cell hD.e) (fun e => hne.2 e.symm))).trans hD.e⟩
    try go_simp
    dsimp only [wpList, SegQ]
    refine ⟨fun w' => ∃ d : Wd (ApD tb m b o e0.stream), w' = d.w, ClsW.mk (D := ApD tb m b o e0.stream) hD', fun _ h => h, ?_⟩
    unfold wpMix; simp only [pick, List.filterMap_nil]
    (repeat (show wpQuiet _ _ _ _ (_ :: _) _; go_big_quiet_step (fail))); refine qn ?_
    rw [assocPut_eq] at hMB
    have hzc := HA.out.2.2.2.2.size
    have hO1 : Only (fun g => g = m ∨ wc.heap.size ≤ g) wc wB := (Only.of_below hbD.drew).tr (hOD.mono (fun g h => Or.inl h))
    have hmlt := HA.out.2.2.1.map.lt
    have hOD2 : Only (fun g => g = m) wD wB := (Only.of_below (jb _ wD).drew).tr hOD
    have hTB : TSAt wB ⟨wc.heap.size + 1, .slice none 0 0, wc.heap.size⟩ ⟨[], []⟩ := ⟨hKD.only hOD2 (fun h => by have h' : wc.heap.size + 1 = m := h; omega), Rep.Own.nil_, hMD.only hOD2 (fun h => by have h' : wc.heap.size = m := h; omega), by simp, by simp⟩
    obtain ⟨s, hs⟩ : ∃ s : SB, s = ⟨wc.heap.size + 1, .slice none 0 0, wc.heap.size⟩ := ⟨_, rfl⟩
    obtain ⟨ts0, hts⟩ : ∃ t : TS, t = ⟨[], []⟩ := ⟨_, rfl⟩
    have hptr : (Value.pointer (some ⟨wc.heap.size + 1, 0, none⟩)) = ptrV s.b := by rw [hs]; rfl
    rw [← hs, ← hts] at hTB
    have hA := HA.out.2.2.1.more hO1 (by rw [hs]; exact hMB) hTB (by rw [hs]; exact ⟨by simp, by simp, fun g h => by cases h⟩) HFN.out (fun g h => h) (fun g h => .inr (by omega))
    have hB := (HA.out.1.ext hbD).only hOD2 (fun e => hne.1 (show tb = m from e).symm)
    have hq : getA e0.stream (putA e0.stream (ts0, s) TA) = some (ts0, s) := by rw [getA_put, if_pos rfl]
    have hpp : ∀ x, putA e0.stream x (putA e0.stream (ts0, s) TA) = putA e0.stream x TA := fun x => putA_put _ _ _ _
    have hOB : Only P w wB := HA.out.2.2.2.2.trans hO1 (fun g hl h => by
     rcases h with rfl | h
     ·rcases HA.out.2.1 with h1 | h1
      ·exact h1
      ·omega
     ·omega)
    have ht0 : ts0 = (getA e0.stream T).getD ⟨[], []⟩ := by rw [HTN.out, hts]; rfl
    have HLE := jh (show ts0.events.length ≤ 40000 from by rw [hts]; simp)
    generalize putA e0.stream (ts0, s) TA = TA' at hA hq hpp
    rw [hptr]
    unfold ptrV
    clear hptr hs hts hMD hKD hbD hD hD' hMm hMB hOD hOD2 hO1 hTB y0 y1
    -- the tail: hB hA hq hOB hpp ht0 HLE
    obtain ⟨hTS, hskm, hsIn, hsfn⟩ := hA.each _ (getA_mem hq)
    obtain ⟨Ae, ce, hev, hca, hcb⟩ := hTS.ev.form
    obtain ⟨sb, ev, km⟩ := s
    simp only at hev hTS hsIn hB hA hq hskm
    subst hev
    have x0 : wB.cell? ⟨sb, 0, none⟩ = some (.slice Ae ts0.events.length ce) := hTS.blk.cell 0
    have hown := hTS.ev.plain (S' := fun _ => True) event_plain
    have hrowB := HR.out.same (w' := wB) (Same.of_only hOB (fun g hq => HPQ.out g hq)) hOB.size
    have hrowB2 := (HR.out.mono (Q := fun g => Q g ∧ g < w.heap.size) (fun g h1 h2 => ⟨h1, h2⟩)).same (w' := wB) (Same.of_only hOB (fun g hq => HPQ.out g hq.1)) hOB.size
    have hQne : ∀ g, Q g ∧ g < w.heap.size → g < wB.heap.size → True ∧ some g ≠ (Value.slice Ae ts0.events.length ce).ownBlock := fun g hg hl => ⟨trivial, fun h => by
     rcases hsIn.ev g h.symm with h1 | h1
     ·exact HPQ.out g hg.1 h1
     ·omega⟩
    obtain ⟨i0, hi0, hz0, hz1, hz2⟩ := info_parts event_info
    have hevl := HLE.out
    have HH := jh (ja hB (ja hA (ja hq (ja hOB (ja hTS (ja hpp ht0))))))
    clear hB hA hq hOB hTS hpp ht0 hskm hsfn
    have fB : ∀ j, wB.frozen? ⟨sb, j, none⟩ = false := fun j => HH.out.2.2.2.2.1.blk.frozen j
    have fB0 := fB 0
    clear fB
    go_upto_region 12 with (first
     | (at_builtin; refine wpList_append_rep (R := EventR) wB rfl (.tmp 74) (.tmp 75) _ rfl 0 63 i0 _ 72 Tryz.underlying45 hi0 hz0 hz1 hz2 rfl _ ts0.events (fun _ => True) rfl hown _ (some ⟨b, o, none⟩) c l rfl hrowB2 hQne (by unfold maxLen; omega) (by omega) (Nat.zero_le _) ?_; intro v1 w6 ho1 hg1 hat1 hn1 hb1; obtain ⟨A1, c1, he1, _⟩ := ho1.form; rw [List.length_append] at he1; subst he1; have z0 := (HH.out.2.2.2.2.1.blk.only (Only.grown hg1 (F := fun g => (Value.slice Ae ts0.events.length ce).ownBlock = some g) (fun g hg => hg)) (fun h => by obtain ⟨xs, hx, _⟩ := HH.out.2.2.2.2.1.ev; exact own_blk_ne hx HH.out.2.2.2.2.1.blk (by decide) h)); have HZ := jh z0; have z00 := z0.cell 0; have z01 := z0.cell 1; have f00 := z0.frozen 0; simp only [List.getElem?_cons_zero, List.getElem?_cons_succ] at z00 z01; clear z0 x0 fB0)
     | fail)
    obtain ⟨hB, hA, hq, hOB, hTS, hpp, ht0⟩ := HH.out
    have hOf : Only (SB.Foot ⟨sb, .slice Ae ts0.events.length ce, km⟩ wB.heap.size) wB (w6.setCell ⟨sb, 0, none⟩ (.slice A1 (ts0.events.length + l.length) c1)) :=
     (Only.grown hg1 (F := SB.Foot ⟨sb, .slice Ae ts0.events.length ce, km⟩ wB.heap.size) (fun g hg => .inr (.inr (.inl hg)))).tr (Only.set_ (p := ⟨sb, 0, none⟩) (.inl rfl) _)
    have hkne : km ≠ sb := (hTS.not_map hTS.km).1
    have hTS7 : TSAt (w6.setCell ⟨sb, 0, none⟩ (.slice A1 (ts0.events.length + l.length) c1)) ⟨sb, .slice A1 (ts0.events.length + l.length) c1, km⟩ ⟨ts0.events ++ l, ts0.keys⟩ := by
     refine ⟨HZ.out.set_ 0 _, ?_, ?_, hTS.nd, hTS.fit⟩
     ·refine (ho1.plain (S' := fun _ => False) event_plain).only (F := fun g => g = sb) (Only.set_ (F := fun g => g = sb) (p := ⟨sb, 0, none⟩) rfl _) (fun _ h => h.elim) (fun g hg h => ?_)
      obtain ⟨xs, hx, _⟩ := ho1
      exact own_blk_ne hx HZ.out (by decide) (h ▸ hg)
     ·refine hTS.km.only ((Only.grown hg1 (F := fun g => g = sb ∨ (Value.slice Ae ts0.events.length ce).ownBlock = some g) (fun g hg => .inr hg)).tr (Only.set_ (p := ⟨sb, 0, none⟩) (.inl rfl) _)) ?_
      rintro (h | h)
      ·exact hkne h
      ·exact (hTS.not_map hTS.km).2 h
    have hA7 := hA.turn (P' := fun g => P g ∨ w.heap.size ≤ g) hq hOf hTS7 rfl rfl (fun g hg => by
     rcases hat1 with h | h
     ·exact .inl (h ▸ hg)
     ·rw [h] at hg; injection hg with hg; exact .inr (by omega)) (fun g h => h) (fun g h => .inr (by have := hOB.size; omega))
    have htbf : ¬ SB.Foot ⟨sb, .slice Ae ts0.events.length ce, km⟩ wB.heap.size tb := by
     rintro (h | h | h | h)
     ·exact (hTS.blk.ne_ hB (by decide)) h.symm
     ·exact (hTS.km.not_cells hB) h.symm
     ·obtain ⟨xs, hx, _⟩ := hTS.ev
      exact own_blk_ne hx hB (by decide) h
     ·have := hB.lt; omega
    have hO7 : Only P w (w6.setCell ⟨sb, 0, none⟩ (.slice A1 (ts0.events.length + l.length) c1)) := hOB.trans hOf (fun g hl h => by
     have hz := hOB.size
     have key : (P g ∨ w.heap.size ≤ g) → P g := fun h => h.elim id (fun h => by omega)
     rcases h with rfl | rfl | h | h
     ·exact key hsIn.b
     ·exact key hsIn.km
     ·exact key (hsIn.ev g h)
     ·omega)
    have HX := jh (ja (hB.only hOf htbf) (ja hA7 (ja hO7 (ja hpp ht0))))
    have hz7 : w.heap.size ≤ (w6.setCell ⟨sb, 0, none⟩ (.slice A1 (ts0.events.length + l.length) c1)).heap.size := hO7.size
    clear hB hA hq hOB hTS hpp ht0 hOf hkne hTS7 hA7 htbf hO7 hown hrowB hrowB2 hQne hi0 hz0 hz1 hz2 hevl ho1 hg1 hat1 hn1 hb1 HZ z00 z01 f00 HH hsIn hca hcb
    generalize (w6.setCell ⟨sb, 0, none⟩ (.slice A1 (ts0.events.length + l.length) c1)) = w7 at *
    have hgq : ∀ X, getA e0.stream (putA e0.stream X TA') = some X := fun X => by rw [getA_put, if_pos rfl]
    have hT7 := (HX.out.2.1.each _ (getA_mem (hgq _))).1
    simp only at hT7
    have x1 : w7.cell? ⟨sb, 1, none⟩ = some (.map (some km)) := hT7.blk.cell 1
    have hKM := hT7.km
    have hkg := keys_get ts0.keys k
    have HFIN := jh (show ∀ (W : World) (ks : List (Str × Known)), StrsAt W (fun g => P g ∨ w.heap.size ≤ g) m (putA e0.stream (⟨ts0.events ++ l, ks⟩, ⟨sb, .slice A1 (ts0.events.length + l.length) c1, km⟩) TA') → Blk W tb 217 [.map (some m)] → Only P w W → addKey k e0 ts0.keys = ks → AppendOut w P tb T k l (.returned (.int .i64 0)) W from fun W ks h1 h2 h3 h4 => by
     unfold AppendOut
     rw [HAP.out]
     refine ⟨rfl, ⟨.inl htl.1, .inr ⟨m, _, h2, HA.out.2.1, h1, ?_⟩⟩, h3⟩
     rw [HX.out.2.2.2.1]
     unfold TabA.tab
     rw [← putA_map (fun q : TS × SB => q.1), ← HX.out.2.2.2.2]
     have := HA.out.2.2.2.1
     unfold TabA.tab at this
     rw [← this, h4])
    clear hT7 hgq
    cases hkq : getA k ts0.keys with
    | some x =>
      rw [hkq] at hkg
      have HKG := jh hkg
      have HKQ := jh hkq
      unfold Known.val at HKG
      clear hkq hkg
      go_wp2_with (first
       | (at_lookup; refine wpList_lookup_two (some (.agg #[.string x.key, .int .i64 x.first, .int .i64 x.stamp.wall, .int .i64 x.stamp.logic, .int .i64 x.stamp.node])) strKey rfl (.tmp 83) (.tmp 84) 239 rfl Tryz.underlying239 rfl hKM k rfl HKG.out _ (zero_known _) ?_; simp only [Option.getD_some, Option.isSome_some])
       | fail)
      go_ret
      exact HFIN.out _ ts0.keys (HX.out.2.1.same HA.out.2.1 (Same.of_below ((jb _ _).al _))) (HX.out.1.alloc _) (HX.out.2.2.1.tr (Only.alloc _)) (by unfold addKey; rw [if_neg (by rw [HKQ.out]; simp)])
    | none =>
      rw [hkq] at hkg
      have HKG := jh hkg
      have HKQ := jh hkq
      clear hkq hkg
      by_cases hke : k.toList = []
      ·have HKE := jh hke
       have hke2 : (!k.toList.isEmpty) = false := by rw [hke]; rfl
       go_wp2_with (first
        | (at_lookup; refine wpList_lookup_two none strKey rfl (.tmp 83) (.tmp 84) 239 rfl Tryz.underlying239 rfl hKM k rfl HKG.out _ (zero_known _) ?_; simp only [Option.getD_none, Option.isSome_none])
        | fail)
       go_ret
       exact HFIN.out _ ts0.keys (HX.out.2.1.same HA.out.2.1 (Same.of_below ((jb _ _).al _))) (HX.out.1.alloc _) (HX.out.2.2.1.tr (Only.alloc _)) (by unfold addKey; rw [if_neg (by simp [HKE.out])])
      ·have HKE := jh hke
       have hke2 : (!k.toList.isEmpty) = true := by cases h : k.toList with | nil => exact absurd h hke | cons a b => rfl
       have hke3 : k.toList.isEmpty = false := by simpa using hke2
       go_upto_region 14 with (first
        | (at_lookup; refine wpList_lookup_two none strKey rfl (.tmp 83) (.tmp 84) 239 rfl Tryz.underlying239 rfl hKM k rfl HKG.out _ (zero_known _) ?_; simp only [Option.getD_none, Option.isSome_none])
        | fail)
       have hb8 := (jb w7.heap.size w7).al (.cells #[.string ⟨#[]⟩, .int .i64 0, .int .i64 0, .int .i64 0, .int .i64 0] 70)
       have HX8 := jh (ja (HX.out.2.1.same HA.out.2.1 (Same.of_below hb8)) (ja (HX.out.1.ext hb8) (ja (HX.out.2.2.1.tr (Only.of_below hb8)) (ja (hKM.ext hb8) hb8.size))))
       have hzz := hb8.size
       clear hb8 x1 hKM
       generalize (w7.alloc (.cells #[.string ⟨#[]⟩, .int .i64 0, .int .i64 0, .int .i64 0, .int .i64 0] 70)) = w8 at *
       have hA8 := HX8.out.1
       have hgq : getA e0.stream (putA e0.stream ((⟨ts0.events ++ l, ts0.keys⟩, ⟨sb, .slice A1 (ts0.events.length + l.length) c1, km⟩) : TS × SB) TA') = some (⟨ts0.events ++ l, ts0.keys⟩, ⟨sb, .slice A1 (ts0.events.length + l.length) c1, km⟩) := by rw [getA_put, if_pos rfl]
       have hT8 := (hA8.each _ (getA_mem hgq)).1
       simp only at hT8
       have hrow8 := HR.out.same (w' := w8) (Same.of_only HX8.out.2.2.1 (fun g hq => HPQ.out g hq)) HX8.out.2.2.1.size
       obtain ⟨b', o', cs, he, hQb, _, hrep, hcs⟩ := hrow8.at_ HL0.out
       obtain ⟨rfl, rfl⟩ : b = b' ∧ o = o' := by simpa using he
       obtain ⟨rfl, _⟩ := event_rep.1 hrep
       have hE : ApE sb km b o e0 w8 := ⟨hT8.blk.cell 1, by simpa only [EventR_size, Nat.zero_mul, Nat.add_zero] using hcs 1 _ rfl, by simpa only [EventR_size, Nat.zero_mul, Nat.add_zero] using hcs 3 _ rfl, by simpa only [EventR_size, Nat.zero_mul, Nat.add_zero] using hcs 4 _ rfl, by simpa only [EventR_size, Nat.zero_mul, Nat.add_zero] using hcs 5 _ rfl⟩
       haveI : Nonempty (Wd (ApE sb km b o e0)) := ⟨⟨w8, hE⟩⟩
       have y1 := ApE.k' (sb := sb) (km := km) (b := b) (o := o) (e := e0)
       have y2 := ApE.v' (sb := sb) (km := km) (b := b) (o := o) (e := e0)
       have y3 := ApE.a' (sb := sb) (km := km) (b := b) (o := o) (e := e0)
       have y4 := ApE.b' (sb := sb) (km := km) (b := b) (o := o) (e := e0)
       have y5 := ApE.c' (sb := sb) (km := km) (b := b) (o := o) (e := e0)
       have hmlt := hT8.km.lt
       have hkmb : b ≠ km := fun e => by
        have := hT8.km.cells? (o + 1); rw [← e, hE.v] at this; cases this
       have hkms : sb ≠ km := fun e => by
        exact (hT8.not_map hT8.km).1 e.symm
       have hKM8 := hT8.km
       clear hcs hrep he hrow8
       refine wp_region_mix (.seg [0, 1, 2, 3, 4, 5, 6, 7, 8, 9, 10, 11, 12, 13] 14 (.seg [] 15 (.leaf []))) (fun w' => ∃ d : Wd (ApE sb km b o e0), w' = d.w) (by kernel_rfl) (by kernel_rfl) (fun _ _ d _ _ h => by cases d <;> exact h) (ClsW.mk (D := ApE sb km b o e0) ⟨hE.k, hE.v, hE.a, hE.bb, hE.c⟩) ?_
       unfold wpMix; simp only [pick, j1, j2, j3, j4]
       (repeat (show wpQuiet _ _ _ _ (_ :: _) _; go_big_quiet_step (fail))); refine qn ?_
       go_wp2_with fail
       dsimp only [wpList, SegQ]
       refine ⟨fun w' => ∃ d : Wd (ApE sb km b o e0), w' = d.w, ClsW.mk (D := ApE sb km b o e0) ⟨hE.k, hE.v, hE.a, hE.bb, hE.c⟩, fun _ h => h, ?_⟩
       unfold wpMix; simp only [pick, j1, j2, j3, j4]
       (repeat (show wpQuiet _ _ _ _ (_ :: _) _; go_big_quiet_step (fail))); refine qn ?_
       refine wpList_mapUpdate_map strKey rfl rfl (.tmp 97) (.tmp 98) (.tmp 108) 239 rfl Tryz.underlying239 rfl (hKM8.drewN 1) k rfl (.agg #[.string k, .int .i64 e0.version, .int .i64 e0.stamp.wall, .int .i64 e0.stamp.logic, .int .i64 e0.stamp.node]) rfl ?_
       intro w9 hM9 hO9
       have hE9 : ApE sb km b o e0 w9 := by
        have f1 : ∀ j, w9.cell? ⟨sb, j, none⟩ = w8.cell? ⟨sb, j, none⟩ := fun j => World.cell?_of_block (w := w8) (a := ⟨sb, j, none⟩) (hO9.block sb hT8.blk.lt hkms)
        have f2 : ∀ j, w9.cell? ⟨b, j, none⟩ = w8.cell? ⟨b, j, none⟩ := fun j => World.cell?_of_block (w := w8) (a := ⟨b, j, none⟩) (hO9.block b (lt_of_cell hE.v) hkmb)
        exact ⟨(f1 _).trans hE.k, (f2 _).trans hE.v, (f2 _).trans hE.a, (f2 _).trans hE.bb, (f2 _).trans hE.c⟩
       try go_simp
       dsimp only [wpList, SegQ]
       refine ⟨fun w' => ∃ d : Wd (ApE sb km b o e0), w' = d.w, ClsW.mk (D := ApE sb km b o e0) hE9, fun _ h => h, ?_⟩
       unfold wpMix; simp only [pick, List.filterMap_nil]
       (repeat (show wpQuiet _ _ _ _ (_ :: _) _; go_big_quiet_step (fail))); refine qn ?_
       have hO92 : Only (fun g => g = km) w8 w9 := (Only.of_below (jb _ w8).drew).tr hO9
       have hT9 : TSAt w9 ⟨sb, .slice A1 (ts0.events.length + l.length) c1, km⟩ ⟨ts0.events ++ l, putA k ⟨k, e0.version, e0.stamp⟩ ts0.keys⟩ := by
        refine ⟨hT8.blk.only hO92 hkms, hT8.ev.only hO92 (fun _ h => h.elim) (fun g hg h => ?_), ?_, putA_nodup hT8.nd, fun p hp => ?_⟩
        ·exact (hT8.not_map hT8.km).2 (h ▸ hg)
        ·rw [assocPut_eq] at hM9
         have := putA_map (fun x : Known => x.val) k ⟨k, e0.version, e0.stamp⟩ ts0.keys
         rw [← this]
         exact hM9
        ·rcases putA_mem' hT8.nd hp with rfl | hp
         ·exact ⟨⟨hksf, HF.out.2.1, HF.out.2.2.2.1⟩, hksf⟩
         ·exact hT8.fit p hp.1
       have hA9 := hA8.turn (P' := fun g => P g ∨ w.heap.size ≤ g) hgq (hO92.mono (fun g h => .inr (.inl h))) hT9 rfl rfl (fun g hg => .inl hg) (fun g h => h) (fun g h => .inr (by have := HX8.out.2.2.1.size; omega))
       rw [putA_put] at hA9
       have hB9 := HX8.out.2.1.only hO92 (fun e => hT8.km.not_cells HX8.out.2.1 e.symm)
       have hkmP := (hA8.each _ (getA_mem hgq)).2.2.1.km
       have hO99 : Only P w w9 := HX8.out.2.2.1.trans hO92 (fun g hl h => by
        subst h
        rcases hkmP with h1 | h1
        ·exact h1
        ·simp only at h1; omega)
       have HZZ := jh (HFIN.out w9 _ hA9 hB9 hO99 (by unfold addKey; rw [if_pos ⟨by rw [HKQ.out]; rfl, HKE.out⟩]))
       clear hA9 hB9 hO99 hT9 hO92 hE9 hM9 hO9 hE hT8 hA8 hgq y1 y2 y3 y4 y5 hKM8 hkmP
       go_wp2_with fail
       go_ret
       exact HZZ.out
  | some q =>
    obtain ⟨ts0, s⟩ := q
    obtain ⟨TA', hTA'⟩ : ∃ X, X = TA := ⟨_, rfl⟩
    rw [hq] at htn
    have HLE := jh (hvt ts0 htn)
    have HQ := jh hq
    rw [hq] at hlk
    simp only [Option.map_some, Option.getD_some, ptrV] at hlk
    have ht0 : ts0 = (getA e0.stream T).getD ⟨[], []⟩ := by rw [htn]; rfl
    have hpp : ∀ x, putA e0.stream x TA' = putA e0.stream x TA := fun _ => by rw [hTA']
    have HPT := jh (ja hpp ht0)
    clear hq htn ht0 hpp
    go_upto_region 7 with fail
    refine wp_region_mix (.leaf [0, 1, 2, 3, 4, 5, 6, 7, 8, 9]) (fun w' => ∃ d : Wd (On wc), w' = d.w) (by kernel_rfl) (by kernel_rfl) (fun _ _ d _ _ h => by cases d <;> exact h) (ClsW.mk (jb _ _).drew) ?_
    unfold wpMix; simp only [pick, j1, j2, j3, j4]
    (repeat (show wpQuiet _ _ _ _ (_ :: _) _; go_big_quiet_step (fail))); refine qn ?_
    clear y0 y1 hlk
    go_upto_region 11 with fail
    obtain ⟨hpp, ht0⟩ := HPT.out
    have hcd : Below wc.heap.size wc wc.drew := (jb _ _).drew
    have hB := HA.out.1.ext hcd
    have hA := HA.out.2.2.1.same HA.out.2.1 (Same.of_below hcd)
    have hq := HQ.out
    rw [← hTA'] at hA hq
    have hOB := HA.out.2.2.2.2.tr (Only.of_below hcd)
    clear hcd hTA'
    generalize wc.drew = wB at *
    -- the tail: hB hA hq hOB hpp ht0 HLE
    obtain ⟨hTS, hskm, hsIn, hsfn⟩ := hA.each _ (getA_mem hq)
    obtain ⟨Ae, ce, hev, hca, hcb⟩ := hTS.ev.form
    obtain ⟨sb, ev, km⟩ := s
    simp only at hev hTS hsIn hB hA hq hskm
    subst hev
    have x0 : wB.cell? ⟨sb, 0, none⟩ = some (.slice Ae ts0.events.length ce) := hTS.blk.cell 0
    have hown := hTS.ev.plain (S' := fun _ => True) event_plain
    have hrowB := HR.out.same (w' := wB) (Same.of_only hOB (fun g hq => HPQ.out g hq)) hOB.size
    have hrowB2 := (HR.out.mono (Q := fun g => Q g ∧ g < w.heap.size) (fun g h1 h2 => ⟨h1, h2⟩)).same (w' := wB) (Same.of_only hOB (fun g hq => HPQ.out g hq.1)) hOB.size
    have hQne : ∀ g, Q g ∧ g < w.heap.size → g < wB.heap.size → True ∧ some g ≠ (Value.slice Ae ts0.events.length ce).ownBlock := fun g hg hl => ⟨trivial, fun h => by
     rcases hsIn.ev g h.symm with h1 | h1
     ·exact HPQ.out g hg.1 h1
     ·omega⟩
    obtain ⟨i0, hi0, hz0, hz1, hz2⟩ := info_parts event_info
    have hevl := HLE.out
    have HH := jh (ja hB (ja hA (ja hq (ja hOB (ja hTS (ja hpp ht0))))))
    clear hB hA hq hOB hTS hpp ht0 hskm hsfn
    have fB : ∀ j, wB.frozen? ⟨sb, j, none⟩ = false := fun j => HH.out.2.2.2.2.1.blk.frozen j
    have fB0 := fB 0
    clear fB
    go_upto_region 12 with (first
     | (at_builtin; refine wpList_append_rep (R := EventR) wB rfl (.tmp 74) (.tmp 75) _ rfl 0 63 i0 _ 72 Tryz.underlying45 hi0 hz0 hz1 hz2 rfl _ ts0.events (fun _ => True) rfl hown _ (some ⟨b, o, none⟩) c l rfl hrowB2 hQne (by unfold maxLen; omega) (by omega) (Nat.zero_le _) ?_; intro v1 w6 ho1 hg1 hat1 hn1 hb1; obtain ⟨A1, c1, he1, _⟩ := ho1.form; rw [List.length_append] at he1; subst he1; have z0 := (HH.out.2.2.2.2.1.blk.only (Only.grown hg1 (F := fun g => (Value.slice Ae ts0.events.length ce).ownBlock = some g) (fun g hg => hg)) (fun h => by obtain ⟨xs, hx, _⟩ := HH.out.2.2.2.2.1.ev; exact own_blk_ne hx HH.out.2.2.2.2.1.blk (by decide) h)); have HZ := jh z0; have z00 := z0.cell 0; have z01 := z0.cell 1; have f00 := z0.frozen 0; simp only [List.getElem?_cons_zero, List.getElem?_cons_succ] at z00 z01; clear z0 x0 fB0)
     | fail)
    obtain ⟨hB, hA, hq, hOB, hTS, hpp, ht0⟩ := HH.out
    have hOf : Only (SB.Foot ⟨sb, .slice Ae ts0.events.length ce, km⟩ wB.heap.size) wB (w6.setCell ⟨sb, 0, none⟩ (.slice A1 (ts0.events.length + l.length) c1)) :=
     (Only.grown hg1 (F := SB.Foot ⟨sb, .slice Ae ts0.events.length ce, km⟩ wB.heap.size) (fun g hg => .inr (.inr (.inl hg)))).tr (Only.set_ (p := ⟨sb, 0, none⟩) (.inl rfl) _)
    have hkne : km ≠ sb := (hTS.not_map hTS.km).1
    have hTS7 : TSAt (w6.setCell ⟨sb, 0, none⟩ (.slice A1 (ts0.events.length + l.length) c1)) ⟨sb, .slice A1 (ts0.events.length + l.length) c1, km⟩ ⟨ts0.events ++ l, ts0.keys⟩ := by
     refine ⟨HZ.out.set_ 0 _, ?_, ?_, hTS.nd, hTS.fit⟩
     ·refine (ho1.plain (S' := fun _ => False) event_plain).only (F := fun g => g = sb) (Only.set_ (F := fun g => g = sb) (p := ⟨sb, 0, none⟩) rfl _) (fun _ h => h.elim) (fun g hg h => ?_)
      obtain ⟨xs, hx, _⟩ := ho1
      exact own_blk_ne hx HZ.out (by decide) (h ▸ hg)
     ·refine hTS.km.only ((Only.grown hg1 (F := fun g => g = sb ∨ (Value.slice Ae ts0.events.length ce).ownBlock = some g) (fun g hg => .inr hg)).tr (Only.set_ (p := ⟨sb, 0, none⟩) (.inl rfl) _)) ?_
      rintro (h | h)
      ·exact hkne h
      ·exact (hTS.not_map hTS.km).2 h
    have hA7 := hA.turn (P' := fun g => P g ∨ w.heap.size ≤ g) hq hOf hTS7 rfl rfl (fun g hg => by
     rcases hat1 with h | h
     ·exact .inl (h ▸ hg)
     ·rw [h] at hg; injection hg with hg; exact .inr (by omega)) (fun g h => h) (fun g h => .inr (by have := hOB.size; omega))
    have htbf : ¬ SB.Foot ⟨sb, .slice Ae ts0.events.length ce, km⟩ wB.heap.size tb := by
     rintro (h | h | h | h)
     ·exact (hTS.blk.ne_ hB (by decide)) h.symm
     ·exact (hTS.km.not_cells hB) h.symm
     ·obtain ⟨xs, hx, _⟩ := hTS.ev
      exact own_blk_ne hx hB (by decide) h
     ·have := hB.lt; omega
    have hO7 : Only P w (w6.setCell ⟨sb, 0, none⟩ (.slice A1 (ts0.events.length + l.length) c1)) := hOB.trans hOf (fun g hl h => by
     have hz := hOB.size
     have key : (P g ∨ w.heap.size ≤ g) → P g := fun h => h.elim id (fun h => by omega)
     rcases h with rfl | rfl | h | h
     ·exact key hsIn.b
     ·exact key hsIn.km
     ·exact key (hsIn.ev g h)
     ·omega)
    have HX := jh (ja (hB.only hOf htbf) (ja hA7 (ja hO7 (ja hpp ht0))))
    have hz7 : w.heap.size ≤ (w6.setCell ⟨sb, 0, none⟩ (.slice A1 (ts0.events.length + l.length) c1)).heap.size := hO7.size
    clear hB hA hq hOB hTS hpp ht0 hOf hkne hTS7 hA7 htbf hO7 hown hrowB hrowB2 hQne hi0 hz0 hz1 hz2 hevl ho1 hg1 hat1 hn1 hb1 HZ z00 z01 f00 HH hsIn hca hcb
    generalize (w6.setCell ⟨sb, 0, none⟩ (.slice A1 (ts0.events.length + l.length) c1)) = w7 at *
    have hgq : ∀ X, getA e0.stream (putA e0.stream X TA') = some X := fun X => by rw [getA_put, if_pos rfl]
    have hT7 := (HX.out.2.1.each _ (getA_mem (hgq _))).1
    simp only at hT7
    have x1 : w7.cell? ⟨sb, 1, none⟩ = some (.map (some km)) := hT7.blk.cell 1
    have hKM := hT7.km
    have hkg := keys_get ts0.keys k
    have HFIN := jh (show ∀ (W : World) (ks : List (Str × Known)), StrsAt W (fun g => P g ∨ w.heap.size ≤ g) m (putA e0.stream (⟨ts0.events ++ l, ks⟩, ⟨sb, .slice A1 (ts0.events.length + l.length) c1, km⟩) TA') → Blk W tb 217 [.map (some m)] → Only P w W → addKey k e0 ts0.keys = ks → AppendOut w P tb T k l (.returned (.int .i64 0)) W from fun W ks h1 h2 h3 h4 => by
     unfold AppendOut
     rw [HAP.out]
     refine ⟨rfl, ⟨.inl htl.1, .inr ⟨m, _, h2, HA.out.2.1, h1, ?_⟩⟩, h3⟩
     rw [HX.out.2.2.2.1]
     unfold TabA.tab
     rw [← putA_map (fun q : TS × SB => q.1), ← HX.out.2.2.2.2]
     have := HA.out.2.2.2.1
     unfold TabA.tab at this
     rw [← this, h4])
    clear hT7 hgq
    cases hkq : getA k ts0.keys with
    | some x =>
      rw [hkq] at hkg
      have HKG := jh hkg
      have HKQ := jh hkq
      unfold Known.val at HKG
      clear hkq hkg
      go_wp2_with (first
       | (at_lookup; refine wpList_lookup_two (some (.agg #[.string x.key, .int .i64 x.first, .int .i64 x.stamp.wall, .int .i64 x.stamp.logic, .int .i64 x.stamp.node])) strKey rfl (.tmp 83) (.tmp 84) 239 rfl Tryz.underlying239 rfl hKM k rfl HKG.out _ (zero_known _) ?_; simp only [Option.getD_some, Option.isSome_some])
       | fail)
      go_ret
      exact HFIN.out _ ts0.keys (HX.out.2.1.same HA.out.2.1 (Same.of_below ((jb _ _).al _))) (HX.out.1.alloc _) (HX.out.2.2.1.tr (Only.alloc _)) (by unfold addKey; rw [if_neg (by rw [HKQ.out]; simp)])
    | none =>
      rw [hkq] at hkg
      have HKG := jh hkg
      have HKQ := jh hkq
      clear hkq hkg
      by_cases hke : k.toList = []
      ·have HKE := jh hke
       have hke2 : (!k.toList.isEmpty) = false := by rw [hke]; rfl
       go_wp2_with (first
        | (at_lookup; refine wpList_lookup_two none strKey rfl (.tmp 83) (.tmp 84) 239 rfl Tryz.underlying239 rfl hKM k rfl HKG.out _ (zero_known _) ?_; simp only [Option.getD_none, Option.isSome_none])
        | fail)
       go_ret
       exact HFIN.out _ ts0.keys (HX.out.2.1.same HA.out.2.1 (Same.of_below ((jb _ _).al _))) (HX.out.1.alloc _) (HX.out.2.2.1.tr (Only.alloc _)) (by unfold addKey; rw [if_neg (by simp [HKE.out])])
      ·have HKE := jh hke
       have hke2 : (!k.toList.isEmpty) = true := by cases h : k.toList with | nil => exact absurd h hke | cons a b => rfl
       have hke3 : k.toList.isEmpty = false := by simpa using hke2
       go_upto_region 14 with (first
        | (at_lookup; refine wpList_lookup_two none strKey rfl (.tmp 83) (.tmp 84) 239 rfl Tryz.underlying239 rfl hKM k rfl HKG.out _ (zero_known _) ?_; simp only [Option.getD_none, Option.isSome_none])
        | fail)
       have hb8 := (jb w7.heap.size w7).al (.cells #[.string ⟨#[]⟩, .int .i64 0, .int .i64 0, .int .i64 0, .int .i64 0] 70)
       have HX8 := jh (ja (HX.out.2.1.same HA.out.2.1 (Same.of_below hb8)) (ja (HX.out.1.ext hb8) (ja (HX.out.2.2.1.tr (Only.of_below hb8)) (ja (hKM.ext hb8) hb8.size))))
       have hzz := hb8.size
       clear hb8 x1 hKM
       generalize (w7.alloc (.cells #[.string ⟨#[]⟩, .int .i64 0, .int .i64 0, .int .i64 0, .int .i64 0] 70)) = w8 at *
       have hA8 := HX8.out.1
       have hgq : getA e0.stream (putA e0.stream ((⟨ts0.events ++ l, ts0.keys⟩, ⟨sb, .slice A1 (ts0.events.length + l.length) c1, km⟩) : TS × SB) TA') = some (⟨ts0.events ++ l, ts0.keys⟩, ⟨sb, .slice A1 (ts0.events.length + l.length) c1, km⟩) := by rw [getA_put, if_pos rfl]
       have hT8 := (hA8.each _ (getA_mem hgq)).1
       simp only at hT8
       have hrow8 := HR.out.same (w' := w8) (Same.of_only HX8.out.2.2.1 (fun g hq => HPQ.out g hq)) HX8.out.2.2.1.size
       obtain ⟨b', o', cs, he, hQb, _, hrep, hcs⟩ := hrow8.at_ HL0.out
       obtain ⟨rfl, rfl⟩ : b = b' ∧ o = o' := by simpa using he
       obtain ⟨rfl, _⟩ := event_rep.1 hrep
       have hE : ApE sb km b o e0 w8 := ⟨hT8.blk.cell 1, by simpa only [EventR_size, Nat.zero_mul, Nat.add_zero] using hcs 1 _ rfl, by simpa only [EventR_size, Nat.zero_mul, Nat.add_zero] using hcs 3 _ rfl, by simpa only [EventR_size, Nat.zero_mul, Nat.add_zero] using hcs 4 _ rfl, by simpa only [EventR_size, Nat.zero_mul, Nat.add_zero] using hcs 5 _ rfl⟩
       haveI : Nonempty (Wd (ApE sb km b o e0)) := ⟨⟨w8, hE⟩⟩
       have y1 := ApE.k' (sb := sb) (km := km) (b := b) (o := o) (e := e0)
       have y2 := ApE.v' (sb := sb) (km := km) (b := b) (o := o) (e := e0)
       have y3 := ApE.a' (sb := sb) (km := km) (b := b) (o := o) (e := e0)
       have y4 := ApE.b' (sb := sb) (km := km) (b := b) (o := o) (e := e0)
       have y5 := ApE.c' (sb := sb) (km := km) (b := b) (o := o) (e := e0)
       have hmlt := hT8.km.lt
       have hkmb : b ≠ km := fun e => by
        have := hT8.km.cells? (o + 1); rw [← e, hE.v] at this; cases this
       have hkms : sb ≠ km := fun e => by
        exact (hT8.not_map hT8.km).1 e.symm
       have hKM8 := hT8.km
       clear hcs hrep he hrow8
       refine wp_region_mix (.seg [0, 1, 2, 3, 4, 5, 6, 7, 8, 9, 10, 11, 12, 13] 14 (.seg [] 15 (.leaf []))) (fun w' => ∃ d : Wd (ApE sb km b o e0), w' = d.w) (by kernel_rfl) (by kernel_rfl) (fun _ _ d _ _ h => by cases d <;> exact h) (ClsW.mk (D := ApE sb km b o e0) ⟨hE.k, hE.v, hE.a, hE.bb, hE.c⟩) ?_
       unfold wpMix; simp only [pick, j1, j2, j3, j4]
       (repeat (show wpQuiet _ _ _ _ (_ :: _) _; go_big_quiet_step (fail))); refine qn ?_
       go_wp2_with fail
       dsimp only [wpList, SegQ]
       refine ⟨fun w' => ∃ d : Wd (ApE sb km b o e0), w' = d.w, ClsW.mk (D := ApE sb km b o e0) ⟨hE.k, hE.v, hE.a, hE.bb, hE.c⟩, fun _ h => h, ?_⟩
       unfold wpMix; simp only [pick, j1, j2, j3, j4]
       (repeat (show wpQuiet _ _ _ _ (_ :: _) _; go_big_quiet_step (fail))); refine qn ?_
       refine wpList_mapUpdate_map strKey rfl rfl (.tmp 97) (.tmp 98) (.tmp 108) 239 rfl Tryz.underlying239 rfl (hKM8.drewN 1) k rfl (.agg #[.string k, .int .i64 e0.version, .int .i64 e0.stamp.wall, .int .i64 e0.stamp.logic, .int .i64 e0.stamp.node]) rfl ?_
       intro w9 hM9 hO9
       have hE9 : ApE sb km b o e0 w9 := by
        have f1 : ∀ j, w9.cell? ⟨sb, j, none⟩ = w8.cell? ⟨sb, j, none⟩ := fun j => World.cell?_of_block (w := w8) (a := ⟨sb, j, none⟩) (hO9.block sb hT8.blk.lt hkms)
        have f2 : ∀ j, w9.cell? ⟨b, j, none⟩ = w8.cell? ⟨b, j, none⟩ := fun j => World.cell?_of_block (w := w8) (a := ⟨b, j, none⟩) (hO9.block b (lt_of_cell hE.v) hkmb)
        exact ⟨(f1 _).trans hE.k, (f2 _).trans hE.v, (f2 _).trans hE.a, (f2 _).trans hE.bb, (f2 _).trans hE.c⟩
       try go_simp
       dsimp only [wpList, SegQ]
       refine ⟨fun w' => ∃ d : Wd (ApE sb km b o e0), w' = d.w, ClsW.mk (D := ApE sb km b o e0) hE9, fun _ h => h, ?_⟩
       unfold wpMix; simp only [pick, List.filterMap_nil]
       (repeat (show wpQuiet _ _ _ _ (_ :: _) _; go_big_quiet_step (fail))); refine qn ?_
       have hO92 : Only (fun g => g = km) w8 w9 := (Only.of_below (jb _ w8).drew).tr hO9
       have hT9 : TSAt w9 ⟨sb, .slice A1 (ts0.events.length + l.length) c1, km⟩ ⟨ts0.events ++ l, putA k ⟨k, e0.version, e0.stamp⟩ ts0.keys⟩ := by
        refine ⟨hT8.blk.only hO92 hkms, hT8.ev.only hO92 (fun _ h => h.elim) (fun g hg h => ?_), ?_, putA_nodup hT8.nd, fun p hp => ?_⟩
        ·exact (hT8.not_map hT8.km).2 (h ▸ hg)
        ·rw [assocPut_eq] at hM9
         have := putA_map (fun x : Known => x.val) k ⟨k, e0.version, e0.stamp⟩ ts0.keys
         rw [← this]
         exact hM9
        ·rcases putA_mem' hT8.nd hp with rfl | hp
         ·exact ⟨⟨hksf, HF.out.2.1, HF.out.2.2.2.1⟩, hksf⟩
         ·exact hT8.fit p hp.1
       have hA9 := hA8.turn (P' := fun g => P g ∨ w.heap.size ≤ g) hgq (hO92.mono (fun g h => .inr (.inl h))) hT9 rfl rfl (fun g hg => .inl hg) (fun g h => h) (fun g h => .inr (by have := HX8.out.2.2.1.size; omega))
       rw [putA_put] at hA9
       have hB9 := HX8.out.2.1.only hO92 (fun e => hT8.km.not_cells HX8.out.2.1 e.symm)
       have hkmP := (hA8.each _ (getA_mem hgq)).2.2.1.km
       have hO99 : Only P w w9 := HX8.out.2.2.1.trans hO92 (fun g hl h => by
        subst h
        rcases hkmP with h1 | h1
        ·exact h1
        ·simp only at h1; omega)
       have HZZ := jh (HFIN.out w9 _ hA9 hB9 hO99 (by unfold addKey; rw [if_pos ⟨by rw [HKQ.out]; rfl, HKE.out⟩]))
       clear hA9 hB9 hO99 hT9 hO92 hE9 hM9 hO9 hE hT8 hA8 hgq y1 y2 y3 y4 y5 hKM8 hkmP
       go_wp2_with fail
       go_ret
       exact HZZ.out
theorem append_any (tb : Nat) (T : Tab) (k : Str) (A : Option Addr) (c : Nat) (l : List Event) (P Q : Nat → Prop) (w : World) (h : TabAt w P tb T) (hr : EventR.Row w Q A l) (hPQ : ∀ g, Q g → ¬ P g) (hl : l.length ≤ 40000) (hk : sfit k) (hev : ∀ n, versionT T n ≤ 40000) (hT : Tabs w) (h2 : 2 ≤ w.heap.size) :
 Calls Tryz.prog 227 #[ptrV tb, .string k, .slice A l.length c] w (AppendOut w P tb T k l) := by
 by_cases h0 : (appendT k l T).2 = 0
 ·exact append_yes tb T k A c l P Q w h hr hPQ hl hk hev hT h2 h0
 ·exact append_no tb T k A c l P Q w h hr hl hk hev hT h2 h0
open Go.RowKit
set_option maxHeartbeats 400000 in
theorem begin_any (n k : Int) (b : Nat) (w : World) (hb : w.cell? ⟨b, 0, none⟩ = some (.int .i64 n)) (hn : 1 ≤ n ∧ n ≤ 5) (hk : 0 ≤ k ∧ k ≤ 5) : Calls Tryz.prog 144 #[.int .i64 k, .pointer (some ⟨b, 0, none⟩)] w fun e w' => e = .returned (.int .i64 (beginR n k)) ∧ w = w' := by
 obtain ⟨n1, n2⟩ := hn
 obtain ⟨k1, k2⟩ := hk
 have h1 : wrap64 (k * 4294967296) = k * 4294967296 := wrap_in _ (by omega)
 have hn0 : (n == 0) = false := by rw [beq_eq_false_iff_ne]; omega
 go_enter Tryz.func144, Tryz.ntmps144
 go_wp2
 go_ret
 exact ⟨rfl, rfl⟩
theorem begin_bd (n k : Int) (hn : 1 ≤ n ∧ n ≤ 5) (hk : 0 ≤ k ∧ k ≤ 5) : 0 ≤ beginR n k ∧ beginR n k ≤ 21474836480 := by
 unfold beginR
 refine ⟨Int.ediv_nonneg (by omega) (by omega), ?_⟩
 exact Int.le_trans (Int.ediv_le_self _ (by omega)) (by omega)
def GotRing (B : Nat) (n : Int) (e : Ending) (w' : World) : Prop := ∃ v, e = .returned (.tuple #[v, .int .i64 (newR n).2]) ∧ RangeR.Own w' B 40 (fun _ => False) v (newR n).1
set_option maxRecDepth 20000 in
set_option maxHeartbeats 1600000 in
theorem newRing_any (n : Int) (w : World) : Calls Tryz.prog 67 #[.int .i64 n] w fun e w' => GotRing w.heap.size n e w' ∧ Below w.heap.size w w' := by
 by_cases hn : n < 1 ∨ 5 < n
 ·have HE := jh (show newR n = ([], 1) from by unfold newR; rw [if_pos hn])
  have hn1 : n < 1 ∨ (decide (n < 1) = false ∧ 5 < n) := by
   by_cases h : n < 1
   ·exact .inl h
   ·exact .inr ⟨decide_eq_false h, by omega⟩
  clear hn
  rcases hn1 with h | ⟨h, h'⟩
  ·go_enter Tryz.func67, Tryz.ntmps67
   go_wp2_with fail
   go_ret2
   exact ⟨⟨_, by rw [HE.out]; rfl, by rw [HE.out]; exact Rep.Own.nil_⟩, (jb _ _).al _⟩
  ·go_enter Tryz.func67, Tryz.ntmps67
   go_wp2_with fail
   go_ret2
   exact ⟨⟨_, by rw [HE.out]; rfl, by rw [HE.out]; exact Rep.Own.nil_⟩, (jb _ _).al _⟩
 ·have HE := jh (show newR n = ((List.range n.toNat).map (newRange n), 0) from by unfold newR; rw [if_neg hn])
  obtain ⟨N, rfl⟩ : ∃ N : Nat, n = N := ⟨n.toNat, by omega⟩
  have hN : 1 ≤ N ∧ N ≤ 5 := by omega
  have h1 : decide ((N : Int) < 1) = false := decide_eq_false (by omega)
  have h2 : decide ((5 : Int) < (N : Int)) = false := decide_eq_false (by omega)
  have B0 := Blk.new w 3 [.int .i64 (N : Int)]
  have hw0 := (jb w.heap.size w).al (.cells #[.int .i64 (N : Int)] 3)
  clear hn
  go_enter Tryz.func67, Tryz.ntmps67
  go_upto_region 5 with fail
  have hz : (w.alloc (.cells #[.int .i64 (N : Int)] 3)).heap.size = w.heap.size + 1 := by simp
  generalize (w.alloc (.cells #[.int .i64 (N : Int)] 3)) = w0 at *
  obtain ⟨N1, N2⟩ := hN
  go_loopw [2, 14] (fun out i wr => ∃ k : Nat, k ≤ N ∧ i = .int .i64 k ∧ RangeR.Own wr w0.heap.size 40 (fun _ => True) out ((List.range k).map (newRange N)) ∧ Below w0.heap.size w0 wr) (fun _ i _ => N - (intOf i).toNat)
  case atStart => exact ⟨0, Nat.zero_le _, rfl, by simpa using Rep.Own.nil_, jb _ _⟩
  case round =>
   obtain ⟨k, hk, rfl, hout, hbl⟩ := hrel
   by_cases hlt : k < N
   ·have hlt' : (k : Int) < (N : Int) := by omega
    have bd1 := begin_bd N k (by omega) (by omega)
    have bd2 := begin_bd N (k + 1) (by omega) (by omega)
    have b0 : wr.cell? ⟨w.heap.size, 0, none⟩ = some (.int .i64 (N : Int)) := (B0.below hbl (by omega)).cell 0
    have C1 := begin_any N k w.heap.size wr b0 (by omega) (by omega)
    have C2 := begin_any N (k + 1) w.heap.size wr b0 (by omega) (by omega)
    have hlen : ((List.range k).map (newRange (N : Int))).length = k := by simp
    obtain ⟨Ao, co, hu, _⟩ := hout.form
    rw [hlen] at hu
    subst hu
    have hrx : RangeR.rep wr (fun _ => False) [.int .i64 (beginR N k), .int .i64 (beginR N (k + 1) - 1), .int .i64 ((k : Int) + 1), .int .i64 1] (newRange N k) :=
     range_rep.2 ⟨rfl, show i64 (beginR N k) from ⟨by omega, by omega⟩, show i64 (beginR N (k + 1) - 1) from ⟨by omega, by omega⟩, show i64 ((k : Int) + 1) from ⟨by omega, by omega⟩, show i64 1 from ⟨by omega, by omega⟩⟩
    obtain ⟨i0, e1, e2, e3, e4⟩ := info_parts range_info
    have hwz := hbl.size
    have HBL := jh hbl
    obtain ⟨bd11, bd12⟩ := bd1
    obtain ⟨bd21, bd22⟩ := bd2
    clear hbl
    go_wp2_with fail
    refine C1.mono ?_
    clear C1
    rintro e w' ⟨rfl, rfl⟩
    go_wp2_with fail
    refine C2.mono ?_
    clear C2 b0
    rintro e w' ⟨rfl, rfl⟩
    go_wp2_with (first
     | (at_builtin; refine wpList_append_new (R := RangeR) wr rfl (.tmp 17) (.tmp 29) _ rfl w0.heap.size 40 i0 _ 32 Tryz.underlying51 e1 e2 e3 e4 rfl _ ((List.range k).map (newRange (N : Int))) (fun _ => True) rfl hout (fun _ _ => trivial) rfl (fun _ => False) _ hrx (fun _ h => h.elim) (by unfold maxLen; omega) (by omega) hwz ?_; intro v1 w6 ho1 hg1 hat1 hn1 hb6)
     | fail)
    go_round
    case rel =>
     refine ⟨k + 1, by omega, by go_num, ?_, HBL.out.trans hb6⟩
     rw [List.range_succ, List.map_append]
     exact ho1
    case measure => simp [intOf]; omega
   ·have hkn : k = N := by omega
    subst hkn
    go_wp2_with fail
    go_ret2
    refine ⟨⟨_, by rw [HE.out]; rfl, ?_⟩, hw0.trans (hbl.mono (by omega))⟩
    rw [HE.out]
    exact (hout.plain range_plain).base' (by omega)
open Go.RowKit
set_option maxHeartbeats 400000 in
theorem gone_any (g : Nat) (n : Int) (w : World) (hb : w.cell? ⟨g, 0, none⟩ = some (.int .i64 n)) (hn : n ≠ 0) : Calls Tryz.prog 69 #[ptrV g] w fun e w' => e = .returned (.bool false) ∧ w = w' := by
 have h0 : (n == 0) = false := by rw [beq_eq_false_iff_ne]; exact hn
 clear hn
 unfold ptrV
 go_enter Tryz.func69, Tryz.ntmps69
 go_wp2
 go_ret
 exact ⟨rfl, rfl⟩
def GotState (B : Nat) (self nodes : Int) (e : Ending) (w' : World) : Prop := match newS self nodes with
 | none => e = .returned (.tuple #[.pointer none, .int .i64 1])
 | some st => ∃ g, e = .returned (.tuple #[ptrV g, .int .i64 0]) ∧ B ≤ g ∧ StAt w' (fun k => B ≤ k ∧ k ≠ g) g st ∧ w'.cell? ⟨g, 6, none⟩ = some (.map none)
theorem newR_err (n : Int) : (newR n).2 = if n < 1 ∨ 5 < n then 1 else 0 := by unfold newR; split <;> rfl
set_option maxRecDepth 20000 in
set_option maxHeartbeats 1600000 in
theorem newState_any (self nodes : Int) (w : World) (h1 : i64 self) (h2 : i64 nodes) : Calls Tryz.prog 16 #[.int .i64 self, .int .i64 nodes] w fun e w' => GotState w.heap.size self nodes e w' ∧ Below w.heap.size w w' := by
 have C := newRing_any nodes w
 unfold GotRing at C
 rw [newR_err] at C
 have H12 := jh (ja h1 h2)
 clear h1 h2
 by_cases hn : nodes < 1 ∨ 5 < nodes
 ·have HN := jh (show newS self nodes = none from by unfold newS; rw [if_pos (by omega)])
  rw [if_pos hn] at C
  clear hn
  go_enter Tryz.func16, Tryz.ntmps16
  go_wp2_with fail
  refine C.mono ?_
  clear C
  rintro e w1 ⟨⟨v, rfl, _⟩, hb1⟩
  go_wp2_with fail
  go_ret2
  exact ⟨by unfold GotState; rw [HN.out]; rfl, hb1⟩
 rw [if_neg hn] at C
 by_cases hs : self < 1 ∨ nodes < self
 ·have HN := jh (show newS self nodes = none from by unfold newS; rw [if_pos (by omega)])
  have hs' : self < 1 ∨ (decide (self < 1) = false ∧ nodes < self) := by
   by_cases h : self < 1
   ·exact .inl h
   ·exact .inr ⟨decide_eq_false h, by omega⟩
  clear hn hs
  rcases hs' with h | ⟨h, h'⟩
  ·go_enter Tryz.func16, Tryz.ntmps16
   go_wp2_with fail
   refine C.mono ?_
   clear C
   rintro e w1 ⟨⟨v, rfl, _⟩, hb1⟩
   go_wp2_with fail
   go_ret2
   exact ⟨by unfold GotState; rw [HN.out]; rfl, hb1⟩
  ·go_enter Tryz.func16, Tryz.ntmps16
   go_wp2_with fail
   refine C.mono ?_
   clear C
   rintro e w1 ⟨⟨v, rfl, _⟩, hb1⟩
   go_wp2_with fail
   go_ret2
   exact ⟨by unfold GotState; rw [HN.out]; rfl, hb1⟩
 have HN := jh (show newS self nodes = some ⟨self, nodes, 0, 0, (newR nodes).1, [], [], [], [], [], []⟩ from by unfold newS; rw [if_neg (by omega)])
 have h3 : decide (self < 1) = false := decide_eq_false (by omega)
 have h4 : decide (nodes < self) = false := decide_eq_false (by omega)
 clear hn hs
 go_enter Tryz.func16, Tryz.ntmps16
 go_wp2_with fail
 refine C.mono ?_
 clear C
 rintro e w1 ⟨⟨v, rfl, ho⟩, hb1⟩
 have C2 := tnew_any w1
 have hlv := ho.lt
 obtain ⟨A, c, rfl, hc1, hc2⟩ := ho.form
 go_wp2_with fail
 refine C2.mono ?_
 clear C2
 rintro e w2 ⟨rfl, rfl⟩
 unfold ptrV
 go_wp2_with fail
 go_ret2
 have hz1 := hb1.size
 refine ⟨?_, (hb1.al _).al _⟩
 unfold GotState
 rw [HN.out]
 refine ⟨w1.heap.size + 1, by simp [ptrV], by omega, ⟨⟨.slice A (newR nodes).1.length c, w1.heap.size, .map none, .map none, .map none, .slice none 0 0, .slice none 0 0⟩, ?_, ?_⟩, ?_⟩
 ·exact Blk.new1 w1 _ 141 _
 ·have hk : Below w1.heap.size w1 ((w1.alloc (.cells #[.map none] 217)).alloc (.cells #[.int .i64 self, .int .i64 nodes, .int .i64 0, .int .i64 0, .slice A (newR nodes).1.length c, .pointer (some ⟨w1.heap.size, 0, none⟩), .map none, .map none, .map none, .slice none 0 0, .slice none 0 0] 141)) := ((jb _ _).al _).al _
  refine ⟨⟨H12.out.1, H12.out.2, show i64 0 from ⟨by omega, by omega⟩, show i64 0 from ⟨by omega, by omega⟩⟩, ⟨A, c, rfl, hc1, hc2, (ho.ext hk).row' range_plain (fun g hg => ⟨(hlv g hg).1, by have := (hlv g hg).2; omega⟩)⟩, ?_, MpAt.nil_, MpAt.nil_, MpAt.nil_, ⟨none, 0, rfl, Nat.le_refl _, by omega, Rep.Row.nil_⟩, ⟨none, 0, rfl, Nat.le_refl _, by omega, Rep.Row.nil_⟩⟩
  exact ((TabAt.new w1).ext ((jb _ _).al _)).mono (fun g hg => ⟨by omega, by omega⟩)
 ·exact (Blk.new1 w1 (.cells #[.map none] 217) 141 [.int .i64 self, .int .i64 nodes, .int .i64 0, .int .i64 0, .slice A (newR nodes).1.length c, .pointer (some ⟨w1.heap.size, 0, none⟩), .map none, .map none, .map none, .slice none 0 0, .slice none 0 0]).cell 6
set_option maxHeartbeats 800000 in
theorem sversion_any (g : Nat) (s : St) (n : Str) (P : Nat → Prop) (w : World) (h : StAt w P g s) (hs : s.self ≠ 0) : Calls Tryz.prog 18 #[ptrV g, .string n] w fun e w' => e = .returned (.int .i64 (versionT s.table n)) ∧ w = w' := by
 obtain ⟨v, hB, hI⟩ := h
 have b0 : w.cell? ⟨g, 0, none⟩ = some (.int .i64 s.self) := hB.cell 0
 have b5 : w.cell? ⟨g, 5, none⟩ = some (ptrV v.tb) := hB.cell 5
 have C1 := gone_any g s.self w b0 hs
 have C2 := version_any v.tb s.table n P w hI.table
 unfold ptrV at b5 C1 C2 ⊢
 clear hB hI hs
 go_enter Tryz.func18, Tryz.ntmps18
 go_wp2_with fail
 refine C1.mono ?_
 clear C1
 rintro e w' ⟨rfl, rfl⟩
 go_wp2_with fail
 refine C2.mono ?_
 clear C2
 rintro e w' ⟨rfl, rfl⟩
 go_wp2_with fail
 go_ret
 exact ⟨rfl, rfl⟩
set_option maxRecDepth 20000 in
set_option maxHeartbeats 800000 in
theorem serves_any (g : Nat) (s : St) (n : Str) (P : Nat → Prop) (w : World) (h : StAt w P g s) (hl : s.ring.length ≤ 1000000) (hn : sfit n) : Calls Tryz.prog 101 #[ptrV g, .string n] w fun e w' => e = .returned (.bool (servesS s n)) ∧ Below w.heap.size w w' := by
 obtain ⟨v, hB, hI⟩ := h
 have b0 : w.cell? ⟨g, 0, none⟩ = some (.int .i64 s.self) := hB.cell 0
 have b4 : w.cell? ⟨g, 4, none⟩ = some v.ring := hB.cell 4
 obtain ⟨A, c, hv, _, _, hrow⟩ := hI.ring
 obtain rfl' : v.ring = .slice A s.ring.length c := by injection hv
 rw [rfl'] at b4
 have C := of_any A c s.ring n P w hrow hl hn
 have HB := jh hB
 have HV := jh (show servesS s n = ((ofR s.ring n).2 && decide ((ofR s.ring n).1.owner = s.self)) from rfl)
 unfold Found at C
 unfold ptrV
 clear hB hI hv rfl' hrow hn
 generalize hq : ofR s.ring n = q at *
 have HQ := jh hq
 clear hq
 obtain ⟨x, b⟩ := q
 go_enter Tryz.func101, Tryz.ntmps101
 go_upto_region 2 with (first
  | (refine C.mono ?_; rintro e w1 ⟨rfl, hb1⟩)
  | fail)
 clear b0 b4
 have hw2 := hb1.al (.cells #[.int .i64 x.first, .int .i64 x.last, .int .i64 x.owner, .int .i64 x.epoch] 40)
 have x2 := On.cell ((Blk.new w1 40 [.int .i64 x.first, .int .i64 x.last, .int .i64 x.owner, .int .i64 x.epoch]).cell 2)
 have b0 := On.cell ((HB.out.ext hw2).cell 0 : _ = some (.int .i64 s.self))
 generalize (w1.alloc (.cells #[.int .i64 x.first, .int .i64 x.last, .int .i64 x.owner, .int .i64 x.epoch] 40)) = w2 at *
 cases b
 ·refine wp_region_mix (.leaf [0, 1, 2, 3, 4, 5, 6, 7, 8, 9, 10]) (fun w' => ∃ d : Wd (On w2), w' = d.w) (by kernel_rfl) (by kernel_rfl) (fun _ _ d _ _ h => by cases d <;> exact h) (ClsW.mk (jb _ _).drew) ?_
  unfold wpMix; simp only [pick, j1, j2, j3, j4]
  (repeat (show wpQuiet _ _ _ _ (_ :: _) _; go_big_quiet_step (fail))); refine qn ?_
  go_wp2_with fail
  go_ret
  exact ⟨ret_bool (by rw [HV.out]; rfl), hw2.drew⟩
 ·by_cases ho : x.owner = s.self
  ·have HO := jh ho
   have g1 : (x.owner == s.self) = true := by rw [beq_iff_eq]; exact ho
   clear ho
   refine wp_region_mix (.leaf [0, 1, 2, 3, 4, 5, 6, 7, 8, 9, 10]) (fun w' => ∃ d : Wd (On w2), w' = d.w) (by kernel_rfl) (by kernel_rfl) (fun _ _ d _ _ h => by cases d <;> exact h) (ClsW.mk (jb _ _).drew) ?_
   unfold wpMix; simp only [pick, j1, j2, j3, j4]
   (repeat (show wpQuiet _ _ _ _ (_ :: _) _; go_big_quiet_step (fail))); refine qn ?_
   go_wp2_with fail
   go_ret
   exact ⟨ret_bool (by rw [HV.out]; simp [HO.out]), hw2.drew⟩
  ·have HO := jh ho
   have g1 : (x.owner == s.self) = false := by rw [beq_eq_false_iff_ne]; exact ho
   clear ho
   refine wp_region_mix (.leaf [0, 1, 2, 3, 4, 5, 6, 7, 8, 9, 10]) (fun w' => ∃ d : Wd (On w2), w' = d.w) (by kernel_rfl) (by kernel_rfl) (fun _ _ d _ _ h => by cases d <;> exact h) (ClsW.mk (jb _ _).drew) ?_
   unfold wpMix; simp only [pick, j1, j2, j3, j4]
   (repeat (show wpQuiet _ _ _ _ (_ :: _) _; go_big_quiet_step (fail))); refine qn ?_
   go_wp2_with fail
   go_ret
   exact ⟨ret_bool (by rw [HV.out]; simp [HO.out]), hw2.drew⟩
open Go.RowKit
def BusyOk (g : Nat) (s : St) (w : World) : Prop := ∀ (n : Str) (W : World), sfit n → Below w.heap.size w W → Calls Tryz.prog 102 #[ptrV g, .string n] W fun e w' => e = .returned (.bool (busyS s n)) ∧ Below W.heap.size W w'
theorem BusyOk.ext {g : Nat} {s : St} {w w' : World} (h : BusyOk g s w) (hb : Below w.heap.size w w') : BusyOk g s w' := fun n W hn hW => h n W hn (hb.tr hW)
set_option maxRecDepth 20000 in
set_option maxHeartbeats 3200000 in
theorem busy_0 (g : Nat) (s : St) (P : Nat → Prop) (w : World) (_h : StAt w P g s) (hf : s.frozen = []) (hh : ∃ v, Blk w g 141 (s.cells v) ∧ StIn w P s v ∧ v.held = .map none) : BusyOk g s w := by
 intro n W hn hW
 obtain ⟨v, hB, hI, hv⟩ := hh
 have hB0 := (hB.ext hW).alloc (.cells #[.string n] 9)
 have CH := fun W => hashI_any n W hn
 obtain ⟨Af, cf, hvf, _, _, hrowf⟩ := hI.frozen
 rw [hf] at hvf
 obtain hvf' : v.frozen = .slice Af 0 cf := by injection hvf
 have b9 : (W.alloc (.cells #[.string n] 9)).cell? ⟨g, 9, none⟩ = some v.frozen := hB0.cell 9
 rw [hvf'] at b9
 have b6 : (W.alloc (.cells #[.string n] 9)).cell? ⟨g, 6, none⟩ = some v.held := hB0.cell 6
 rw [hv] at b6
 have hnil := hI.held
 rw [hv] at hnil
 have hhe : s.held = [] := by
  obtain ⟨_, ⟨_, e⟩ | ⟨m, _, e, _⟩⟩ := hnil
  ·exact e
  ·cases e
 have HBS := jh (show busyS s n = false from by unfold busyS; rw [hf, hhe]; rfl)
 clear hI hvf hvf' hrowf hn hB hf hnil hhe hv
 unfold ptrV
 go_enter Tryz.func102, Tryz.ntmps102
 go_wp2_with fail
 refine (CH _).mono ?_
 clear CH
 rintro e w' ⟨rfl, rfl⟩
 go_wp2_with fail
 go_loopw [17] (fun i wr => i = .int .i64 0 ∧ wr = W.alloc (.cells #[.string n] 9)) (fun i _ => 0)
 case atStart => exact ⟨rfl, rfl⟩
 case round =>
  obtain ⟨rfl, rfl⟩ := hrel
  go_wp2_with (first
   | (at_range; refine wpList_range_nil rfl (.tmp 29) _ rfl Tryz.underlying137 rfl ?_; intro w2 hit hb2 hz2)
   | fail)
  go_frame
  go_loopw [31] (fun _ wr => wr = w2) (fun _ _ => 0)
  case atStart => rfl
  case round =>
   obtain rfl := hrel
   go_wp2_with (first
    | (at_next; refine wpList_next_nil rfl (.tmp 30) rfl rfl hit ?_)
    | fail)
   go_ret
   exact ⟨ret_bool (by rw [HBS.out]), ((jb _ _).al _).tr hb2⟩
open Go.RowKit
theorem knownL_drop (T : Tab) (k : Str) (l : List Put) (j : Nat) (a : List Int × Known × Bool) (h : j < l.length) : knownL T k (l.drop j) a =
 if (knownT T l[j].stream k).2 then knownL T k (l.drop (j + 1)) (a.1 ++ [(knownT T l[j].stream k).1.first], (if a.1.length = 0 then (knownT T l[j].stream k).1 else a.2.1), a.2.2 || decide ((knownT T l[j].stream k).1.stamp ≠ (if a.1.length = 0 then (knownT T l[j].stream k).1 else a.2.1).stamp))
 else knownL T k (l.drop (j + 1)) a := by
 rw [List.drop_eq_getElem_cons h]; rfl
theorem int_plain : IntR.Plain := fun _ _ _ _ _ _ h => h
def Got3 (B : Nat) (q : List Int × Known × Int) (e : Ending) (w' : World) : Prop :=
 ∃ v, e = .returned (.tuple #[v, .agg #[.string q.2.1.key, .int .i64 q.2.1.first, .int .i64 q.2.1.stamp.wall, .int .i64 q.2.1.stamp.logic, .int .i64 q.2.1.stamp.node], .int .i64 q.2.2]) ∧ IntR.Own w' B 3 (fun _ => False) v q.1
theorem results_mid {P : Program} {fn : Func} {p u z : Tmp} {ty : TypeId} (h : fn.results = #[.tmp z, .cell p ty, .tmp u]) (tmps : Array Value) {w : World} {g : Nat} {t : TypeId} {cs : List Value} {d : TypeDesc}
 (hg : Blk w g t cs) (hp : tmps.getD p undef = .pointer (some ⟨g, 0, none⟩))
 (hu : P.underlying ty = some d) (hd : (match d with | .struct _ | .array _ _ => true | _ => false) = true) (hi : (P.info? ty).map (·.size) = some cs.length) :
 (results fn tmps).run P w = .ok (.tuple #[tmps.getD z undef, .agg cs.toArray, tmps.getD u undef]) w := by
 have hr := run_loadVar_row (P := P) w g t ty cs.toArray (0, 0) d hg hu hd (by simpa using hi)
 have hp' : tmps[p]?.getD undef = .pointer (some ⟨g, 0, none⟩) := by simpa using hp
 simp [results, h, hp', asAddr, hr]
def KnB (g : Nat) (x : Known) (W : World) : Prop := Blk W g 70 x.cells
section
variable {g : Nat} {x : Known}
theorem KnB.c0 (d : Wd (KnB g x)) : d.w.cell? ⟨g, 0, none⟩ = some (.string x.key) := Blk.cell d.ok 0
theorem KnB.c1 (d : Wd (KnB g x)) : d.w.cell? ⟨g, 1, none⟩ = some (.int .i64 x.first) := Blk.cell d.ok 1
theorem KnB.c2 (d : Wd (KnB g x)) : d.w.cell? ⟨g, 2, none⟩ = some (.int .i64 x.stamp.wall) := Blk.cell d.ok 2
theorem KnB.c3 (d : Wd (KnB g x)) : d.w.cell? ⟨g, 3, none⟩ = some (.int .i64 x.stamp.logic) := Blk.cell d.ok 3
theorem KnB.c4 (d : Wd (KnB g x)) : d.w.cell? ⟨g, 4, none⟩ = some (.int .i64 x.stamp.node) := Blk.cell d.ok 4
end
theorem wpList_store_blk {P : Program} {ops : Array Oper} {rest : List Oper} {o : Oper} {a : Act} {w : World} {Q : Exit → Act → World → Prop} (hgd : o.guard = none) (hdst : o.dst = none) {ty : TypeId} {x y : Operand} (ho : o.op = .store ty x y) {g : Nat} {t : TypeId} {old cs : List Value} (hx : a.eval x = .pointer (some ⟨g, 0, none⟩)) (hy : a.eval y = .agg cs.toArray)
 (hB : Blk w g t old) (hi : (P.info? ty).map (·.size) = some cs.length) (hold : old.length = cs.length) (h1 : cs.all (·.oneCell') = true)
 (h : ∀ w', Blk w' g t cs → Only (fun k => k = g) w w' → w'.heap.size = w.heap.size → wpList P ops Q rest a w') : wpList P ops Q (o :: rest) a w := by
 refine wpList_plain hgd fun K' hK' => ?_
 have hr := run_storeVar_row (P := P) w g t ty old.toArray cs.toArray hB (by simpa using hi) (by simpa using hold) (by simpa using h1)
 unfold Oper.wp execOp
 simp only [ho, hx, hy, Instr.storeAt, Instr.sureAddr, Sem.run_bind, Sem.run_pure, Result.andThen_ok, hr, Oper.upon, hdst, Act.put]
 refine hK' _ _ (h _ ?_ ?_ ?_)
 ·unfold Blk at hB ⊢
  simp only [World.setRow, Array.getElem?_modify, if_true, hB, Option.map_some]
 ·refine ⟨rfl, rfl, rfl, by simp [World.setRow], fun k hk hn => ?_⟩
  simp only [World.setRow, Array.getElem?_modify]
  rw [if_neg (fun e => hn e.symm)]
 ·simp [World.setRow]
set_option maxRecDepth 20000 in
set_option maxHeartbeats 3200000 in
theorem known_any' (g : Nat) (s : St) (b : Batch) (A : Option Addr) (c : Nat) (P Q : Nat → Prop) (w : World) (h : StAt w P g s) (hr : PutR.Row w Q A b.puts) (hl : b.puts.length ≤ 8) (hT : ∀ n k, (knownT s.table n k).1.fit) :
 Calls Tryz.prog 103 #[ptrV g, .agg #[.string b.key, .slice A b.puts.length c]] w fun e w' => Got3 w.heap.size (knownS s b) e w' ∧ Below w.heap.size w w' := by
 obtain ⟨v, hB, hI⟩ := h
 have HTB := jh hI.table
 have HB := jh hB
 have HR := jh (hr.mono (Q := fun g => g < w.heap.size) fun g _ h => h)
 have HK := jh (show knownS s b = if b.key.toList = [] then ([], zeroKnown, 0) else if (knownL s.table b.key b.puts ([], zeroKnown, false)).1.length = 0 then ([], zeroKnown, 0) else if (knownL s.table b.key b.puts ([], zeroKnown, false)).1.length < b.puts.length ∨ (knownL s.table b.key b.puts ([], zeroKnown, false)).2.2 = true then ([], zeroKnown, 1) else ((knownL s.table b.key b.puts ([], zeroKnown, false)).1, (knownL s.table b.key b.puts ([], zeroKnown, false)).2.1, 4) from rfl)
 have HTT := jh hT
 have CK := jh (fun n k W (hW : Below w.heap.size w W) => knownT_any v.tb s.table n k P W (hI.table.ext hW))
 unfold KnownV at CK
 clear hr hB hI hT
 by_cases hk : b.key.toList = []
 ·have HKE := jh (show knownS s b = ([], zeroKnown, 0) from by rw [HK.out, if_pos hk])
  have hk2 : (!b.key.toList.isEmpty) = false := by rw [hk]; rfl
  unfold ptrV
  go_enter Tryz.func103, Tryz.ntmps103
  go_wp2_with fail
  rw [HKE.out]
  exact bodyPost_ret (results_mid rfl _ (Blk.new1 w _ 70 [.string ⟨#[]⟩, .int .i64 0, .int .i64 0, .int .i64 0, .int .i64 0]) (by rfl) Tryz.underlying70 rfl (by kernel_rfl)) rfl ⟨⟨_, rfl, Rep.Own.nil_⟩, ((jb _ _).al _).al _⟩
 have hk2 : (!b.key.toList.isEmpty) = true := by cases h : b.key.toList with | nil => exact absurd h hk | cons a b => rfl
 have hk3 : b.key.toList.isEmpty = false := by simpa using hk2
 have HKN := jh hk
 unfold ptrV
 go_enter Tryz.func103, Tryz.ntmps103
 go_upto_region 4 with fail
 have B0 := (Blk.new w 32 [.string b.key, .slice A b.puts.length c]).alloc (.cells #[.string ⟨#[]⟩, .int .i64 0, .int .i64 0, .int .i64 0, .int .i64 0] 70)
 have B1 := Blk.new1 w (.cells #[.string b.key, .slice A b.puts.length c] 32) 70 [.string ⟨#[]⟩, .int .i64 0, .int .i64 0, .int .i64 0, .int .i64 0]
 have hb1 := ((jb w.heap.size w).al (.cells #[.string b.key, .slice A b.puts.length c] 32)).al (.cells #[.string ⟨#[]⟩, .int .i64 0, .int .i64 0, .int .i64 0, .int .i64 0] 70)
 have hs1 : ((w.alloc (.cells #[.string b.key, .slice A b.puts.length c] 32)).alloc (.cells #[.string ⟨#[]⟩, .int .i64 0, .int .i64 0, .int .i64 0, .int .i64 0] 70)).heap.size = w.heap.size + 2 := by simp
 refine forget (M := fun W => Code.wp _ _ _ _ W) (fun W => Below w.heap.size w W ∧ Blk W w.heap.size 32 [.string b.key, .slice A b.puts.length c] ∧ Blk W (w.heap.size + 1) 70 zeroKnown.cells ∧ W.heap.size = w.heap.size + 2) ⟨hb1, B0, B1, hs1⟩ ?_
 clear B0 B1 hb1 hs1
 rintro w1 ⟨hb1, B0, B1, hs1⟩
 have x1 : w1.cell? ⟨w.heap.size, 1, none⟩ = some (.slice A b.puts.length c) := B0.cell 1
 have HB0 := jh (ja B0 hs1)
 go_wp2_with fail
 clear x1
 go_loopw [4, 7, 19] (fun fv uv i wr => ∃ (k : Nat) (fl : List Int) (x : Known) (u : Bool), k ≤ b.puts.length ∧ i = .int .i64 k ∧ uv = .bool u ∧ fl.length ≤ k ∧ IntR.Own wr w1.heap.size 3 (fun _ => True) fv fl ∧ Blk wr (w.heap.size + 1) 70 x.cells ∧
  knownL s.table b.key (b.puts.drop k) (fl, x, u) = knownL s.table b.key b.puts ([], zeroKnown, false) ∧ Only (fun g => g = w.heap.size + 1 ∨ w1.heap.size ≤ g) w1 wr) (fun _ _ i _ => b.puts.length - (intOf i).toNat)
 case atStart => exact ⟨0, [], zeroKnown, false, Nat.zero_le _, rfl, rfl, Nat.le_refl _, Rep.Own.nil_, B1, rfl, Only.refl _ _⟩
 case round =>
  clear B0 B1 hs1
  obtain ⟨k, fl, x, u, hkl, rfl, rfl, hfl, hfo, hBx, hkn, hO⟩ := hrel
  have hs1 := HB0.out.2
  have hlo : Below w.heap.size w wr := hb1.trans (hO.low (fun g hg => by rcases hg with h | h <;> omega) (by omega))
  have hBb : Blk wr w.heap.size 32 [.string b.key, .slice A b.puts.length c] := HB0.out.1.only hO (fun h => by rcases h with h | h <;> omega)
  by_cases hlt : k < b.puts.length
  ·have hlk := List.getElem?_eq_getElem hlt
   have hkd := knownL_drop s.table b.key b.puts k (fl, x, u) hlt
   obtain ⟨bb, o, cs, hAe, hP, hbw, hrep, hcs⟩ := (HR.out.ext hlo).at_ hlk
   generalize b.puts[k] = p at hlk hkd hrep
   subst hAe
   obtain ⟨Ad, cd, rfl, _, _, _, _, _⟩ := put_rep.1 hrep
   have c0 := hcs 0 _ rfl; have c1 := hcs 1 _ rfl; have c2 := hcs 2 _ rfl; simp only [PutR_size, Nat.add_zero] at c0 c1 c2
   have hlt' : (k : Int) < b.puts.length := by omega
   have hq : (knownT s.table p.stream b.key).1.fit := HTT.out _ _
   have CK' := CK.out p.stream b.key
   clear hcs hrep hlk hP hbw
   generalize knownT s.table p.stream b.key = q at *
   have HKD := jh (ja hkd (ja hkn hq))
   clear hkd hkn hq
   go_upto_region 7 with fail
   have hb2 := (jb wr.heap.size wr).al (.cells #[.string p.stream, .int .i64 p.expect, .slice Ad p.data.length cd] 29)
   have BP := Blk.new wr 29 [.string p.stream, .int .i64 p.expect, .slice Ad p.data.length cd]
   have hfo2 := hfo.ext hb2
   have hBx2 := hBx.ext hb2
   have hO2 := hO.tr (Only.of_below hb2)
   have hlo2 := hlo.trans (hb2.mono hlo.size)
   have y0 := On.cell (BP.cell 0)
   have y1 := On.cell ((hBb.ext hb2).cell 0)
   have y5 := On.cell ((HB.out.ext hlo2).cell 5 : _ = some (ptrV v.tb))
   unfold ptrV at y5 CK'
   clear c0 c1 c2 hb2 BP hfo hBx hO hlo hBb
   generalize (wr.alloc (.cells #[.string p.stream, .int .i64 p.expect, .slice Ad p.data.length cd] 29)) = w2 at *
   have hz2 := hlo2.size
   have HG := jh (ja hfo2 (ja hBx2 (ja hO2 hlo2)))
   clear hfo2 hBx2 hO2
   go_cut [10, 11] (fun kv ov wx => ∃ kb, kv = .pointer (some ⟨kb, 0, none⟩) ∧ ov = .bool q.2 ∧ Blk wx kb 70 q.1.cells ∧ Below w2.heap.size w2 wx ∧ w2.heap.size ≤ kb)
   case first =>
    refine wp_region_mix (.fork [0, 1, 2, 3, 4, 5, 6, 7] 8 (.seg [9, 10, 11] 12 (.seg [] 13 (.leaf [14]))) 12 (.seg [] 8 (.seg [9, 10, 11] 13 (.leaf [14])))) (fun w' => ∃ d : Wd (On w2), w' = d.w) (by kernel_rfl) (by kernel_rfl) (fun _ _ d _ _ h => by cases d <;> exact h) (ClsW.mk (jb _ _).drew) ?_
    unfold wpMix; simp only [pick, j1, j2, j3, j4]
    (repeat (show wpQuiet _ _ _ _ (_ :: _) _; go_big_quiet_step (fail))); refine qn ?_
    constructor
    ·go_wp2_with fail
     refine (CK' w2.drew hlo2.drew).mono ?_
     rintro e w3 ⟨rfl, hb3'⟩
     have hb3 : Below w2.heap.size w2 w3 := (jb _ w2).drew.tr hb3'
     clear hb3' CK'
     go_wp2_with fail
     dsimp only [wpList, SegQ]
     refine ⟨fun w' => ∃ d : Wd (On w2), w' = d.w, ClsW.mk hb3, fun _ h => h, ?_⟩
     unfold wpMix; simp only [pick, j1, j2, j3, j4]
     (repeat (show wpQuiet _ _ _ _ (_ :: _) _; go_big_quiet_step (fail))); refine qn ?_
     go_wp2_with fail
     have hb4 := hb3.al (.cells #[.string ⟨#[]⟩, .int .i64 0, .int .i64 0, .int .i64 0, .int .i64 0] 70)
     have BK := Blk.new w3 70 [.string ⟨#[]⟩, .int .i64 0, .int .i64 0, .int .i64 0, .int .i64 0]
     have hz3 := hb3.size
     dsimp only [wpList, SegQ]
     refine ⟨fun w' => ∃ d : Wd (On w2), w' = d.w, ClsW.mk hb4, fun _ h => h, ?_⟩
     unfold wpMix; simp only [pick, j1, j2, j3, j4]
     (repeat (show wpQuiet _ _ _ _ (_ :: _) _; go_big_quiet_step (fail))); refine qn ?_
     refine wpList_store_new (cs := q.1.cells.toArray) rfl rfl rfl rfl rfl (by kernel_rfl) rfl (by simp [Known.cells, Value.oneCell']) ?_
     have hb5 := hb3.al (.cells q.1.cells.toArray 70)
     dsimp only [wpList, SegQ]
     refine ⟨fun w' => ∃ d : Wd (On w2), w' = d.w, ClsW.mk hb5, fun _ h => h, ?_⟩
     unfold wpMix; simp only [pick, j1, j2, j3, j4]
     (repeat (show wpQuiet _ _ _ _ (_ :: _) _; go_big_quiet_step (fail))); refine qn ?_
     have HZ := jh (ja (Blk.new w3 70 q.1.cells) (ja hb5 hz3))
     go_wp2_with fail
     go_meet
     exact ⟨_, rfl, rfl, HZ.out.1, HZ.out.2.1, HZ.out.2.2⟩
    ·go_wp2_with fail
     have hb4 := ((jb w2.heap.size w2).al (.cells #[.string ⟨#[]⟩, .int .i64 0, .int .i64 0, .int .i64 0, .int .i64 0] 70)).drew
     dsimp only [wpList, SegQ]
     refine ⟨fun w' => ∃ d : Wd (On w2), w' = d.w, ClsW.mk hb4, fun _ h => h, ?_⟩
     unfold wpMix; simp only [pick, j1, j2, j3, j4]
     (repeat (show wpQuiet _ _ _ _ (_ :: _) _; go_big_quiet_step (fail))); refine qn ?_
     go_wp2_with fail
     refine (CK' _ (hlo2.trans (hb4.mono hz2))).mono ?_
     rintro e w3 ⟨rfl, hb3'⟩
     have BK := ((Blk.new w2 70 [.string ⟨#[]⟩, .int .i64 0, .int .i64 0, .int .i64 0, .int .i64 0]).ext (jb _ _).drew).ext hb3'
     have hb5 : Below w2.heap.size w2 w3 := hb4.tr hb3'
     clear hb3' CK'
     have k0 := BK.cell 0
     have k1 := BK.cell 1
     have k2 := BK.cell 2
     have k3 := BK.cell 3
     have k4 := BK.cell 4
     have f0 := BK.frozen 0
     have f1 := BK.frozen 1
     have f2 := BK.frozen 2
     have f3 := BK.frozen 3
     have f4 := BK.frozen 4
     have HBK := jh BK
     clear BK
     simp only [List.getElem?_cons_zero, List.getElem?_cons_succ] at k0 k1 k2 k3 k4
     go_wp2_with fail
     dsimp only [wpList, SegQ]
     refine ⟨fun w' => ∃ d : Wd (On w2), w' = d.w, ClsW.mk hb5, fun _ h => h, ?_⟩
     unfold wpMix; simp only [pick, j1, j2, j3, j4]
     (repeat (show wpQuiet _ _ _ _ (_ :: _) _; go_big_quiet_step (fail))); refine qn ?_
     go_wp2_with fail
     dsimp only [wpList, SegQ]
     refine ⟨fun w' => ∃ d : Wd (On w2), w' = d.w, ClsW.mk (D := On w2) (by unfold On; repeat (first | exact hb5 | refine Below.st ?_ (Nat.le_refl _) _)), fun _ h => h, ?_⟩
     unfold wpMix; simp only [pick, j1, j2, j3, j4]
     (repeat (show wpQuiet _ _ _ _ (_ :: _) _; go_big_quiet_step (fail))); refine qn ?_
     go_wp2_with fail
     go_meet
     exact ⟨_, rfl, rfl, ((((HBK.out.set_ 0 (.string q.1.key)).set_ 1 (.int .i64 q.1.first)).set_ 2 (.int .i64 q.1.stamp.wall)).set_ 3 (.int .i64 q.1.stamp.logic)).set_ 4 (.int .i64 q.1.stamp.node), (by repeat (first | exact hb5 | refine Below.st ?_ (Nat.le_refl _) _)), Nat.le_refl _⟩
   case rest =>
    obtain ⟨kb, rfl, rfl, hKB, hbc, hkb⟩ := hcut
    obtain ⟨hfo2, hBx2, hO2, hlo2'⟩ := HG.out
    have hfo3 := hfo2.ext hbc
    have hBx3 := hBx2.ext hbc
    have hO3 := hO2.tr (Only.of_below hbc)
    have hzc := hbc.size
    obtain ⟨kn, ok⟩ := q
    simp only at hKB HKD
    cases ok
    ·have HZ := jh (ja hfo3 (ja hBx3 hO3))
     clear hfo2 hBx2 hO2 hlo2' hfo3 hBx3 hO3 hKB y0 y1 y5
     go_wp2_with fail
     go_round
     case rel =>
      refine ⟨k + 1, fl, x, u, by omega, by go_num, rfl, by omega, HZ.out.1, HZ.out.2.1, ?_, HZ.out.2.2⟩
      rw [← HKD.out.2.1, HKD.out.1]; rfl
     case measure => simp [intOf]; omega
    ·have k0 : wc.cell? ⟨kb, 0, none⟩ = some (.string kn.key) := hKB.cell 0
     have k1 : wc.cell? ⟨kb, 1, none⟩ = some (.int .i64 kn.first) := hKB.cell 1
     have k2 : wc.cell? ⟨kb, 2, none⟩ = some (.int .i64 kn.stamp.wall) := hKB.cell 2
     have k3 : wc.cell? ⟨kb, 3, none⟩ = some (.int .i64 kn.stamp.logic) := hKB.cell 3
     have k4 : wc.cell? ⟨kb, 4, none⟩ = some (.int .i64 kn.stamp.node) := hKB.cell 4
     clear y0 y1 y5
     obtain ⟨Ao, co, hu4, _⟩ := hfo3.form
     subst hu4
     have hfb : w.heap.size + 1 < w2.heap.size := by have := hO2.size; omega
     have HXX := jh (show ∃ x', (if fl.length = 0 then kn else x) = x' from ⟨_, rfl⟩)
     obtain ⟨x', hx'⟩ := HXX.out
     have HX := jh hx'
     clear hx' HXX
     go_upto_if 39 with fail
     go_cut [] (fun wx => Blk wx (w.heap.size + 1) 70 x'.cells ∧ Blk wx kb 70 kn.cells ∧ IntR.Own wx w1.heap.size 3 (fun _ => True) (.slice Ao fl.length co) fl ∧ Only (fun g => g = w.heap.size + 1 ∨ w1.heap.size ≤ g) w1 wx)
     case first =>
      by_cases hf0 : fl.length = 0
      ·have g0 : ((fl.length : Int) == 0) = true := by rw [beq_iff_eq]; omega
       have HXE := jh (show kn = x' from by have := HX.out; rwa [if_pos hf0] at this)
       have f0 := hBx3.frozen 0
       have f1 := hBx3.frozen 1
       have f2 := hBx3.frozen 2
       have f3 := hBx3.frozen 3
       have f4 := hBx3.frozen 4
       have z0 := hBx3.cell 0
       have z1 := hBx3.cell 1
       have z2 := hBx3.cell 2
       have z3 := hBx3.cell 3
       have z4 := hBx3.cell 4
       simp only [Known.cells, List.getElem?_cons_zero, List.getElem?_cons_succ] at z0 z1 z2 z3 z4
       have HH := jh (ja hBx3 (ja hKB (ja hfo3 hO3)))
       have hne : (Value.slice Ao fl.length co).ownBlock ≠ some (w.heap.size + 1) := by
        obtain ⟨xs, hx, _⟩ := hfo3
        exact own_blk_ne hx hBx3 (by decide)
       have HNE := jh hne
       clear hBx3 hKB hfo3 hO3 hf0 hne hfo2 hBx2 hO2 hlo2'
       simp only [g0]
       go_wp2_with fail
       go_meet
       obtain ⟨hBx3, hKB, hfo3, hO3⟩ := HH.out
       have hS : Only (fun g => g = w.heap.size + 1) wc _ := ((((Only.set_ (w := wc) (F := fun g => g = w.heap.size + 1) (p := ⟨w.heap.size + 1, 0, none⟩) rfl (.string kn.key)).tr (Only.set_ (F := fun g => g = w.heap.size + 1) (p := ⟨w.heap.size + 1, 1, none⟩) rfl (.int .i64 kn.first))).tr (Only.set_ (F := fun g => g = w.heap.size + 1) (p := ⟨w.heap.size + 1, 2, none⟩) rfl (.int .i64 kn.stamp.wall))).tr (Only.set_ (F := fun g => g = w.heap.size + 1) (p := ⟨w.heap.size + 1, 3, none⟩) rfl (.int .i64 kn.stamp.logic))).tr (Only.set_ (F := fun g => g = w.heap.size + 1) (p := ⟨w.heap.size + 1, 4, none⟩) rfl (.int .i64 kn.stamp.node))
       refine ⟨?_, hKB.only hS (fun h => by have : kb = w.heap.size + 1 := h; omega), ((hfo3.plain (S' := fun _ => False) int_plain).only hS (fun _ h => h.elim) (fun g hg h => HNE.out (by rw [hg, show g = w.heap.size + 1 from h]))).plain int_plain, hO3.tr (hS.mono (fun g h => .inl h))⟩
       rw [← HXE.out]
       exact ((((hBx3.set_ 0 (.string kn.key)).set_ 1 (.int .i64 kn.first)).set_ 2 (.int .i64 kn.stamp.wall)).set_ 3 (.int .i64 kn.stamp.logic)).set_ 4 (.int .i64 kn.stamp.node)
      ·have g0 : ((fl.length : Int) == 0) = false := by rw [beq_eq_false_iff_ne]; omega
       have HXE := jh (show x = x' from by have := HX.out; rwa [if_neg hf0] at this)
       have HH := jh (ja hBx3 (ja hKB (ja hfo3 hO3)))
       clear hBx3 hKB hfo3 hO3 hf0 hfo2 hBx2 hO2 hlo2'
       simp only [g0]
       go_wp2_with fail
       go_meet
       rw [← HXE.out]
       exact ⟨HH.out.1, HH.out.2.1, HH.out.2.2.1, HH.out.2.2.2⟩
     case rest =>
      obtain ⟨hBX, hKK, hfo4, hO4⟩ := hcut
      have k1 : wc.cell? ⟨kb, 1, none⟩ = some (.int .i64 kn.first) := hKK.cell 1
      have hO4z := hO4.size
      obtain ⟨i0, e1, e2, e3, e4⟩ := info_parts int_info
      have hrx : IntR.rep wc (fun _ => False) [.int .i64 kn.first] kn.first := ⟨rfl, HKD.out.2.2.2.1⟩
      have HH := jh (ja hBX (ja hKK hO4))
      have HFO := jh hfo4
      clear hBX hKK hO4 hBx3 hKB hfo3 hO3 hfo2 hBx2 hO2 hlo2' k0 k2 k3 k4
      go_upto_region 12 with (first
       | (at_builtin; refine wpList_append_new (R := IntR) wc rfl (.tmp 41) (.tmp 44) _ rfl w1.heap.size 3 i0 _ 8 Tryz.underlying38 e1 e2 e3 e4 rfl _ fl (fun _ => True) rfl hfo4 (fun _ _ => trivial) rfl (fun _ => False) _ hrx (fun _ h => h.elim) (by unfold maxLen; omega) (by omega) hO4z ?_; intro v1 w6 ho1 hg1 hat1 hn1 hb6)
       | fail)
      have hO6 := HH.out.2.2.trans (Only.of_belowB (F := fun g => w1.heap.size ≤ g) hb6 (fun g h => h)) (fun g _ h => .inr h)
      have hne1 : ∀ t cs gg, Blk wc gg t cs → 3 ≠ t → (Value.slice Ao fl.length co).ownBlock ≠ some gg := fun t cs gg hb ht => by
       obtain ⟨xs, hx, _⟩ := HFO.out
       exact own_blk_ne hx hb ht
      have hX6 := HH.out.1.only (Only.grown hg1 (F := fun g => (Value.slice Ao fl.length co).ownBlock = some g) (fun g hg => hg)) (hne1 _ _ _ HH.out.1 (by decide))
      have hK6 := HH.out.2.1.only (Only.grown hg1 (F := fun g => (Value.slice Ao fl.length co).ownBlock = some g) (fun g hg => hg)) (hne1 _ _ _ HH.out.2.1 (by decide))
      have k2 : w6.cell? ⟨kb, 2, none⟩ = some (.int .i64 kn.stamp.wall) := hK6.cell 2
      have k3 : w6.cell? ⟨kb, 3, none⟩ = some (.int .i64 kn.stamp.logic) := hK6.cell 3
      have k4 : w6.cell? ⟨kb, 4, none⟩ = some (.int .i64 kn.stamp.node) := hK6.cell 4
      have x2 : w6.cell? ⟨w.heap.size + 1, 2, none⟩ = some (.int .i64 x'.stamp.wall) := hX6.cell 2
      have x3 : w6.cell? ⟨w.heap.size + 1, 3, none⟩ = some (.int .i64 x'.stamp.logic) := hX6.cell 3
      have x4 : w6.cell? ⟨w.heap.size + 1, 4, none⟩ = some (.int .i64 x'.stamp.node) := hX6.cell 4
      have HZ := jh (ja ho1 (ja hX6 hO6))
      have HEND := jh (show ∀ u', u' = (u || decide (kn.stamp ≠ x'.stamp)) → knownL s.table b.key (b.puts.drop (k + 1)) (fl ++ [kn.first], x', u') = knownL s.table b.key b.puts ([], zeroKnown, false) from fun u' hu' => by
       rw [← HKD.out.2.1, HKD.out.1, hu']
       simp only [if_true, HX.out])
      clear ho1 hX6 hO6 hK6 hne1 hg1 hat1 hn1 hb6 hrx e1 e2 e3 e4 hfo4 k1
      cases u
      ·have hcase : (kn.stamp.wall ≠ x'.stamp.wall) ∨ (kn.stamp.wall = x'.stamp.wall ∧ kn.stamp.logic ≠ x'.stamp.logic) ∨ (kn.stamp.wall = x'.stamp.wall ∧ kn.stamp.logic = x'.stamp.logic ∧ kn.stamp.node ≠ x'.stamp.node) ∨
        (kn.stamp.wall = x'.stamp.wall ∧ kn.stamp.logic = x'.stamp.logic ∧ kn.stamp.node = x'.stamp.node) := by
        by_cases kn.stamp.wall = x'.stamp.wall <;> by_cases kn.stamp.logic = x'.stamp.logic <;> by_cases kn.stamp.node = x'.stamp.node <;> simp [*]
       rcases hcase with gg | gg | gg | gg
       ·have G := jh gg
        (have g3 : (kn.stamp.wall == x'.stamp.wall) = false := by rw [beq_eq_false_iff_ne] ; exact gg)
        clear gg
        go_wp2_with fail
        go_round
        case rel =>
         refine ⟨k + 1, fl ++ [kn.first], x', true, by omega, by go_num, rfl, by simp; omega, HZ.out.1, HZ.out.2.1, HEND.out _ ?_, HZ.out.2.2⟩
         have hne : kn.stamp ≠ x'.stamp := fun e => G.out (by rw [e])
         simp [hne]
        case measure => simp [intOf]; omega
       ·have G := jh gg
        (rw [gg.1] at k2) ; (have g3 : (kn.stamp.logic == x'.stamp.logic) = false := by rw [beq_eq_false_iff_ne] ; exact gg.2)
        clear gg
        go_wp2_with fail
        go_round
        case rel =>
         refine ⟨k + 1, fl ++ [kn.first], x', true, by omega, by go_num, rfl, by simp; omega, HZ.out.1, HZ.out.2.1, HEND.out _ ?_, HZ.out.2.2⟩
         have hne : kn.stamp ≠ x'.stamp := fun e => G.out.2 (by rw [e])
         simp [hne]
        case measure => simp [intOf]; omega
       ·have G := jh gg
        (rw [gg.1] at k2) ; (rw [gg.2.1] at k3) ; (have g3 : (kn.stamp.node == x'.stamp.node) = false := by rw [beq_eq_false_iff_ne] ; exact gg.2.2)
        clear gg
        go_wp2_with fail
        go_round
        case rel =>
         refine ⟨k + 1, fl ++ [kn.first], x', true, by omega, by go_num, rfl, by simp; omega, HZ.out.1, HZ.out.2.1, HEND.out _ ?_, HZ.out.2.2⟩
         have hne : kn.stamp ≠ x'.stamp := fun e => G.out.2.2 (by rw [e])
         simp [hne]
        case measure => simp [intOf]; omega
       ·have G := jh gg
        rw [gg.1] at k2
        rw [gg.2.1] at k3
        rw [gg.2.2] at k4
        clear gg
        go_wp2_with fail
        go_round
        case rel =>
         refine ⟨k + 1, fl ++ [kn.first], x', false, by omega, by go_num, rfl, by simp; omega, HZ.out.1, HZ.out.2.1, HEND.out _ ?_, HZ.out.2.2⟩
         have hst : kn.stamp = x'.stamp := by
          have := G.out
          obtain ⟨y1, y2, ⟨y3, y4, y5⟩⟩ := kn
          obtain ⟨x1, x2, ⟨x3, x4, x5⟩⟩ := x'
          simp only at this ⊢
          rw [this.1, this.2.1, this.2.2]
         simp [hst]
        case measure => simp [intOf]; omega
      ·go_wp2_with fail
       go_round
       case rel => exact ⟨k + 1, fl ++ [kn.first], x', true, by omega, by go_num, rfl, by simp; omega, HZ.out.1, HZ.out.2.1, HEND.out _ rfl, HZ.out.2.2⟩
       case measure => simp [intOf]; omega
  ·have hkn' : k = b.puts.length := by omega
   subst hkn'
   rw [List.drop_length] at hkn
   have HKN2 := jh (show knownL s.table b.key b.puts ([], zeroKnown, false) = (fl, x, u) from hkn.symm)
   have y1 : wr.cell? ⟨w.heap.size, 1, none⟩ = some (.slice A b.puts.length c) := hBb.cell 1
   obtain ⟨Ao, co, hu4, _⟩ := hfo.form
   subst hu4
   have HH := jh (ja hlo (ja hfo hBx))
   have hzl := hlo.size
   by_cases hf0 : fl.length = 0
   ·have g0 : ((fl.length : Int) == 0) = true := by rw [beq_iff_eq]; omega
    have HKE := jh (show knownS s b = ([], zeroKnown, 0) from by rw [HK.out, if_neg HKN.out, HKN2.out, if_pos hf0])
    clear hkn hBx hO hfo hlo hBb hf0
    go_wp2_with (first
     | (refine wpList_store_blk (cs := zeroKnown.cells) rfl rfl rfl rfl rfl HH.out.2.2 (by kernel_rfl) rfl (by simp [zeroKnown, zeroStamp, Known.cells, Value.oneCell']) ?_; intro w8 hB8 hO8 hz8)
     | fail)
    rw [HKE.out]
    exact bodyPost_ret (results_mid rfl _ hB8 (by rfl) Tryz.underlying70 rfl (by kernel_rfl)) rfl ⟨⟨_, rfl, Rep.Own.nil_⟩, HH.out.1.trans (hO8.low (fun g hg => by have : g = w.heap.size + 1 := hg; omega) hzl)⟩
   have g0 : ((fl.length : Int) == 0) = false := by rw [beq_eq_false_iff_ne]; omega
   by_cases hfs : fl.length < b.puts.length
   ·have HKE := jh (show knownS s b = ([], zeroKnown, 1) from by rw [HK.out, if_neg HKN.out, HKN2.out, if_neg hf0, if_pos (.inl hfs)])
    have hfs' : (fl.length : Int) < b.puts.length := by omega
    clear hkn hBx hO hfo hlo hBb hf0
    go_wp2_with (first
     | (refine wpList_store_blk (cs := zeroKnown.cells) rfl rfl rfl rfl rfl HH.out.2.2 (by kernel_rfl) rfl (by simp [zeroKnown, zeroStamp, Known.cells, Value.oneCell']) ?_; intro w8 hB8 hO8 hz8)
     | fail)
    rw [HKE.out]
    exact bodyPost_ret (results_mid rfl _ hB8 (by rfl) Tryz.underlying70 rfl (by kernel_rfl)) rfl ⟨⟨_, rfl, Rep.Own.nil_⟩, HH.out.1.trans (hO8.low (fun g hg => by have : g = w.heap.size + 1 := hg; omega) hzl)⟩
   have hfs' : decide (fl.length < b.puts.length) = false := decide_eq_false hfs
   cases u
   ·have HKE := jh (show knownS s b = (fl, x, 4) from by rw [HK.out, if_neg HKN.out, HKN2.out, if_neg hf0, if_neg (by simp; omega)])
    haveI : Nonempty (Wd (KnB (w.heap.size + 1) x)) := ⟨⟨_, hBx⟩⟩
    have z0 := KnB.c0 (g := w.heap.size + 1) (x := x)
    have z1 := KnB.c1 (g := w.heap.size + 1) (x := x)
    have z2 := KnB.c2 (g := w.heap.size + 1) (x := x)
    have z3 := KnB.c3 (g := w.heap.size + 1) (x := x)
    have z4 := KnB.c4 (g := w.heap.size + 1) (x := x)
    clear hkn hBx hO hfo hlo hBb hf0 hfs
    go_upto_region 18 with fail
    refine wp_region_mix (.seg [0, 1, 2] 3 (.leaf [4])) (fun w' => ∃ d : Wd (KnB (w.heap.size + 1) x), w' = d.w) (by kernel_rfl) (by kernel_rfl) (fun _ _ d _ _ h => by cases d <;> exact h) (ClsW.mk (D := KnB (w.heap.size + 1) x) (Blk.drew HH.out.2.2)) ?_
    unfold wpMix; simp only [pick, j1, j2, j3, j4]
    (repeat (show wpQuiet _ _ _ _ (_ :: _) _; go_big_quiet_step (fail))); refine qn ?_
    refine wpList_store_blk (cs := x.cells) rfl rfl rfl rfl rfl (Blk.drew HH.out.2.2) (by kernel_rfl) rfl (by simp [Known.cells, Value.oneCell']) ?_
    intro w8 hB8 hO8 hz8
    dsimp only [wpList, SegQ]
    refine ⟨fun w' => ∃ d : Wd (KnB (w.heap.size + 1) x), w' = d.w, ClsW.mk (D := KnB (w.heap.size + 1) x) hB8, fun _ h => h, ?_⟩
    unfold wpMix; simp only [pick, j1, j2, j3, j4]
    (repeat (show wpQuiet _ _ _ _ (_ :: _) _; go_big_quiet_step (fail))); refine qn ?_
    have hO9 : Only (fun g => g = w.heap.size + 1) wr w8 := (Only.of_below (jb _ wr).drew).tr hO8
    have hO9f : IntR.Own w8 w1.heap.size 3 (fun _ => False) (.slice Ao fl.length co) fl := (HH.out.2.1.plain (S' := fun _ => False) int_plain).only hO9 (fun _ h => h.elim) (fun g hg h => by
     obtain ⟨xs, hx, _⟩ := HH.out.2.1
     exact own_blk_ne hx HH.out.2.2 (by decide) (show _ = some (w.heap.size + 1) from by rw [hg, show g = w.heap.size + 1 from h]))
    have HO9 := jh (ja hO9 hO9f)
    clear hO9 hO9f z0 z1 z2 z3 z4
    go_wp2_with fail
    rw [HKE.out]
    exact bodyPost_ret (results_mid rfl _ hB8 (by rfl) Tryz.underlying70 rfl (by kernel_rfl)) rfl ⟨⟨_, rfl, HO9.out.2.base' (by omega)⟩, HH.out.1.trans (HO9.out.1.low (fun g hg => by have : g = w.heap.size + 1 := hg; omega) hzl)⟩
   ·have HKE := jh (show knownS s b = ([], zeroKnown, 1) from by rw [HK.out, if_neg HKN.out, HKN2.out, if_neg hf0, if_pos (.inr rfl)])
    clear hkn hBx hO hfo hlo hBb hf0 hfs
    go_wp2_with (first
     | (refine wpList_store_blk (cs := zeroKnown.cells) rfl rfl rfl rfl rfl HH.out.2.2 (by kernel_rfl) rfl (by simp [zeroKnown, zeroStamp, Known.cells, Value.oneCell']) ?_; intro w8 hB8 hO8 hz8)
     | fail)
    rw [HKE.out]
    exact bodyPost_ret (results_mid rfl _ hB8 (by rfl) Tryz.underlying70 rfl (by kernel_rfl)) rfl ⟨⟨_, rfl, Rep.Own.nil_⟩, HH.out.1.trans (hO8.low (fun g hg => by have : g = w.heap.size + 1 := hg; omega) hzl)⟩
end Go.Proofs.YtpgocpodhamibaaGreatDoor
