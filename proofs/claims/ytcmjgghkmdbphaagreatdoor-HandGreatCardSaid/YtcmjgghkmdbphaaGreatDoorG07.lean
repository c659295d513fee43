/- rec.named: the fields that a kind names. rec.writer: numbers, bytes. rec.writer.lists. -/
import Derived.Test.YtcmjgghkmdbphaaGreatDoorG06
import Derived.Laws.ResultCell
set_option maxRecDepth 20000
set_option maxHeartbeats 25600000
namespace Go.Proofs.YtcmjgghkmdbphaaGreatDoor
open Go.RowKit
theorem results_blk_tmp {P : Program} {fn : Func} {p u : Tmp} {ty : TypeId} (h : fn.results = #[.cell p ty, .tmp u]) (tmps : Array Value) {w : World} {g : Nat} {t : TypeId} {cs : List Value} {d : TypeDesc}
 (hg : Blk w g t cs) (hp : tmps.getD p undef = .pointer (some ⟨g, 0, none⟩))
 (hu : P.underlying ty = some d) (hd : (match d with | .struct _ | .array _ _ => true | _ => false) = true) (hi : (P.info? ty).map (·.size) = some cs.length) :
 (results fn tmps).run P w = .ok (.tuple #[.agg cs.toArray, tmps.getD u undef]) w := by
 rw [results_cell_tmp h]
 simp only [hp, asAddr, Sem.run_pure, Result.andThen]
 rw [run_loadVar_row w g t ty cs.toArray (0, 0) d hg hu hd (by simpa using hi)]
structure Fields where
 fN : Bool := false
 fTo : Bool := false
 fYes : Bool := false
 fStamp : Bool := false
 fTx : Bool := false
 fNodes : Bool := false
 fBatch : Bool := false
 fSpan : Bool := false
 fStreams : Bool := false
def Fields.cells (f : Fields) : List Value := [.bool f.fN, .bool f.fTo, .bool f.fYes, .bool f.fStamp, .bool f.fTx, .bool f.fNodes, .bool f.fBatch, .bool f.fSpan, .bool f.fStreams]
def fieldsF (k : Int) : Fields :=
 if k = 1 ∨ k = 2 ∨ k = 8 then { fN := true }
 else if k = 3 then { fBatch := true, fStamp := true }
 else if k = 4 then { fTx := true, fBatch := true, fStamp := true }
 else if k = 5 then { fTx := true, fYes := true, fStamp := true }
 else if k = 6 then { fTx := true, fYes := true, fStamp := true, fNodes := true }
 else if k = 7 then { fTx := true }
 else if k = 9 then { fSpan := true, fTo := true }
 else if k = 10 then { fSpan := true, fStamp := true, fStreams := true }
 else if k = 11 then { fSpan := true }
 else {}
def namedK (k : Int) : Bool := decide (1 ≤ k) && decide (k ≤ 11)
theorem recNamed_any (k : Int) (w : World) : Calls Tryz.prog 251 #[.int .i64 k] w fun e w' => e = .returned (.tuple #[.agg (fieldsF k).cells.toArray, .bool (namedK k)]) ∧ Below w.heap.size w w' := by
 by_cases h : namedK k = true
 ·have h1 : 1 ≤ k ∧ k ≤ 11 := by simpa [namedK] using h
  have hk : k = 1 ∨ k = 2 ∨ k = 3 ∨ k = 4 ∨ k = 5 ∨ k = 6 ∨ k = 7 ∨ k = 8 ∨ k = 9 ∨ k = 10 ∨ k = 11 := by omega
  clear h h1
  rcases hk with rfl | rfl | rfl | rfl | rfl | rfl | rfl | rfl | rfl | rfl | rfl
  all_goals
   go_enter Tryz.func251, Tryz.ntmps251
   go_wp2
   (try simp only [Exit.inBlock, Exit.then])
   exact bodyPost_ret (results_blk_tmp rfl _ (Blk.new w 320 [_, _, _, _, _, _, _, _, _]) rfl Tryz.underlying320 rfl (by kernel_rfl)) rfl ⟨rfl, by repeat (with_reducible first | assumption | exact jb _ _ | refine Below.al ?_ _ | refine Below.drew ?_ | apply Below.st1)⟩
 ·have h' : ¬ (1 ≤ k ∧ k ≤ 11) := fun hh => h (by simp [namedK, hh])
  have hf : fieldsF k = {} := by
   unfold fieldsF
   repeat rw [if_neg (by omega)]
  have hn : namedK k = false := by simpa using h
  have HF := jh hf
  have HN := jh hn
  have e1 : (k == 1) = false := by rw [beq_eq_false_iff_ne]; omega
  have e2 : (k == 2) = false := by rw [beq_eq_false_iff_ne]; omega
  have e3 : (k == 3) = false := by rw [beq_eq_false_iff_ne]; omega
  have e4 : (k == 4) = false := by rw [beq_eq_false_iff_ne]; omega
  have e5 : (k == 5) = false := by rw [beq_eq_false_iff_ne]; omega
  have e6 : (k == 6) = false := by rw [beq_eq_false_iff_ne]; omega
  have e7 : (k == 7) = false := by rw [beq_eq_false_iff_ne]; omega
  have e8 : (k == 8) = false := by rw [beq_eq_false_iff_ne]; omega
  have e9 : (k == 9) = false := by rw [beq_eq_false_iff_ne]; omega
  have e10 : (k == 10) = false := by rw [beq_eq_false_iff_ne]; omega
  have e11 : (k == 11) = false := by rw [beq_eq_false_iff_ne]; omega
  clear h h' hf hn
  go_enter Tryz.func251, Tryz.ntmps251
  go_wp2
  (try simp only [Exit.inBlock, Exit.then])
  rw [HF.out, HN.out]
  exact bodyPost_ret (results_blk_tmp rfl _ (Blk.new w 320 [_, _, _, _, _, _, _, _, _]) rfl Tryz.underlying320 rfl (by kernel_rfl)) rfl ⟨rfl, by repeat (with_reducible first | assumption | exact jb _ _ | refine Below.al ?_ _ | refine Below.drew ?_ | apply Below.st1)⟩
end Go.Proofs.YtcmjgghkmdbphaaGreatDoor
namespace Go.Proofs.YtcmjgghkmdbphaaGreatDoor
open Go.RowKit
def ByteF (g : Nat) (w : World) (k : Nat) : Prop := k = g ∨ ∃ cs fr, w.heap[k]? = some (.cells cs 5 fr)
def Turn (g : Nat) (w w' : World) : Prop := Only (ByteF g w) w w'
section
variable {g : Nat} {w w' w'' : World}
theorem Turn.refl : Turn g w w := Only.refl _ _
theorem Turn.trans (h : Turn g w w') (k : Turn g w' w'') : Turn g w w'' := Only.trans h k fun b hb hf => by
 rcases hf with e | ⟨cs, fr, hh⟩
 ·exact .inl e
 ·by_cases hF : ByteF g w b
  ·exact hF
  ·exact .inr ⟨cs, fr, (h.block b hb hF).symm.trans hh⟩
theorem Turn.of_below (h : Below w.heap.size w w') : Turn g w w' := jo h
theorem Turn.set_ (o : Nat) (u : Value) : Turn g w (w.setCell ⟨g, o, none⟩ u) := Only.set_ (.inl rfl) u
theorem Turn.grown {v : Value} {base n : Nat} (hv : Bts w base v n) (hg : w.grownBy w' v.ownBlock) : Turn g w w' := Only.grown hg fun k hk => by
 obtain ⟨l, hl, xs, h1, h2⟩ := hv
 rcases h1.2 with ⟨rfl, _⟩ | ⟨g', cap, cur, rfl, _, hh, _⟩
 ·simp [Value.ownBlock] at hk
 ·simp [Value.ownBlock] at hk; subst hk; exact .inr ⟨_, _, hh⟩
theorem Turn.blk {b : Nat} {t : TypeId} {cs : List Value} (h : Turn g w w') (hb : Blk w b t cs) (ht : t ≠ 5) (hg : b ≠ g) : Blk w' b t cs := (h.block b hb.lt (fun hf => by
 rcases hf with e | ⟨cs', fr, hh⟩
 ·exact hg e
 ·unfold Blk at hb; rw [hb] at hh; injection hh with hh; injection hh with _ h2; exact ht h2)).trans hb
end
def Wr (w : World) (base g : Nat) (bad : Bool) (n : Nat) : Prop := ∃ v, Blk w g 326 [v, .bool bad] ∧ Bts w base v n
theorem Wr.turn {w w' : World} {base g n : Nat} {bad : Bool} (h : Wr w base g bad n) (hb : Below w.heap.size w w') : Wr w' base g bad n := by
 obtain ⟨v, h1, h2⟩ := h
 exact ⟨v, h1.ext hb, h2.ext hb⟩
theorem Wr.lt {w : World} {base g n : Nat} {bad : Bool} (h : Wr w base g bad n) : g < w.heap.size := by
 obtain ⟨v, h1, h2⟩ := h
 exact h1.lt
theorem Wr.own_ne {w : World} {base g n : Nat} {v : Value} {t : TypeId} {cs : List Value} (h1 : Blk w g t cs) (h2 : Bts w base v n) (ht : t ≠ 5) : v.ownBlock ≠ some g := by
 obtain ⟨l, hl, xs, ho, _⟩ := h2
 exact own_blk_ne ho h1 (fun e => ht e.symm)
theorem Bts.setCell {w : World} {base n g o : Nat} {v : Value} (h : Bts w base v n) (hg : v.ownBlock ≠ some g) (u : Value) : Bts (w.setCell ⟨g, o, none⟩ u) base v n := by
 obtain ⟨xs, h1, h2⟩ := h.raw
 refine Bts.of_raw (xs := xs) ⟨h1.1, ?_⟩ h2
 rcases h1.2 with hn | ⟨g', cap, cur, hv, hbg, hh, rest⟩
 ·exact .inl hn
 ·exact .inr ⟨g', cap, cur, hv, hbg, (Below.heap_setCell w ⟨g, o, none⟩ u g' (fun e => hg (by rw [hv]; exact congrArg some e))).trans hh, rest⟩
def WrB (g : Nat) (v : Value) (b : Bool) (W : World) : Prop := Blk W g 326 [v, .bool b]
theorem WrB.cell0 {g : Nat} {v : Value} {b : Bool} (d : Wd (WrB g v b)) : d.w.cell? ⟨g, 0, none⟩ = some v := Blk.cell d.ok 0
def WrOut (g base lo hi : Nat) (bad : Bool) (w : World) (e : Ending) (w' : World) : Prop := e = .returned (.tuple #[]) ∧ (∃ n, lo ≤ n ∧ n ≤ hi ∧ Wr w' base g bad n) ∧ Below base w w' ∧ Turn g w w'
def inW (n : Int) : Bool := decide (0 ≤ n) && decide (n ≤ 1125899906842624)
theorem wnums_any (g base n : Nat) (bad : Bool) (A : Option Addr) (c : Nat) (l : List Int) (P : Nat → Prop) (w : World) (hW : Wr w base g bad n) (hr : IntR.Row w P A l) (hl : l.length ≤ 1000000) (hn : n ≤ 70000000) (hg : base ≤ g)
 (hd : ∀ W, Below base w W → Turn g w W → Same P w W) :
 Calls Tryz.prog 296 #[.pointer (some ⟨g, 0, none⟩), .slice A l.length c] w (WrOut g base n (n + 10 * l.length) (bad || !l.all inW) w) := by
 have HR := jh hr; clear hr
 have HD := jh hd; clear hd
 have hgl := hW.lt
 go_enter Tryz.func296, Tryz.ntmps296
 go_wp2
 go_loopw [5, 8] (fun _ i wr => ∃ (k m : Nat) (b : Bool), k ≤ l.length ∧ i = .int .i64 k ∧ n ≤ m ∧ m ≤ n + 10 * k ∧ Wr wr base g b m ∧ b = (bad || !(l.take k).all inW) ∧ (b = true → k = 0) ∧ Below base w wr ∧ Turn g w wr) (fun _ i _ => l.length - (intOf i).toNat)
 case atStart => exact ⟨0, n, bad, Nat.zero_le _, rfl, by omega, by omega, hW, by simp, fun _ => rfl, jb _ _, Turn.refl⟩
 case round =>
  obtain ⟨k, m, b, hkl, rfl, hm1, hm2, ⟨v, hB, hv⟩, hbad, hb0, hbl, htn⟩ := hrel
  have HX := jh (ja hbad hb0); clear hbad hb0
  have hzr := hbl.size
  by_cases hlt : k < l.length
  ·have hlk := jg hlt
   obtain ⟨bb, o, cs, rfl, hP, hbw, ⟨rfl, hi0, hi1⟩, hcs⟩ := (HR.out.same (HD.out _ hbl htn) hzr).at_ hlk
   have hts := take_snoc l k hlt
   generalize l[k] = x at *
   have c0 := hcs 0 _ rfl; simp only [IntR_size, Nat.add_zero, Nat.mul_one] at c0
   have HTS := jh (ja hts (ja hlk hcs)); clear hts hlk hcs
   have hlt' : (k : Int) < l.length := by omega
   have y0 : wr.cell? ⟨g, 0, none⟩ = some v := hB.cell 0
   have y1 : wr.cell? ⟨g, 1, none⟩ = some (.bool b) := hB.cell 1
   have f1 : wr.frozen? ⟨g, 1, none⟩ = false := hB.frozen 1
   have hsz1 : (wr.setCell ⟨g, 1, none⟩ (.bool false)).heap.size = wr.heap.size := by simp
   cases b
   ·by_cases h1 : x < 0
    ·have h1' := jh h1
     have hS := hB.set_ 1 (.bool true)
     have hv' := hv.setCell (o := 1) (Wr.own_ne hB hv (by decide)) (.bool true)
     have hbl' : Below base w (wr.setCell ⟨g, 1, none⟩ (.bool true)) := hbl.setCell (p := ⟨g, 1, none⟩) hg _
     have htn' : Turn g w (wr.setCell ⟨g, 1, none⟩ (.bool true)) := htn.trans (Turn.set_ 1 _)
     have HH := jh (ja hS (ja hv' (ja hbl' htn')))
     have hbl0 := jh hbl
     clear hS hv' hbl' htn' hB hv hbl htn
     go_wp2_with fail
     (try simp only [Exit.inBlock, Exit.then]); refine bodyPost_ret (results_none rfl _ _ _) rfl ?_
     obtain ⟨hS, hv', hbl', htn'⟩ := HH.out
     refine ⟨rfl, ⟨m, by omega, by omega, v, ?_, hv'⟩, hbl', htn'⟩
     rw [show (bad || !l.all inW) = true from ?_]
     ·exact hS
     ·rw [not_all HTS.out.2.1 (by unfold inW; rw [jd (by have := h1'.out; omega), Bool.false_and])]; simp
    ·have h1' : decide (x < 0) = false := jd h1
     by_cases h2 : 1125899906842624 < x
     ·have h2' := jh h2
      clear h1
      have hS := hB.set_ 1 (.bool true)
      have hv' := hv.setCell (o := 1) (Wr.own_ne hB hv (by decide)) (.bool true)
      have hbl' : Below base w (wr.setCell ⟨g, 1, none⟩ (.bool true)) := hbl.setCell (p := ⟨g, 1, none⟩) hg _
      have htn' : Turn g w (wr.setCell ⟨g, 1, none⟩ (.bool true)) := htn.trans (Turn.set_ 1 _)
      have HH := jh (ja hS (ja hv' (ja hbl' htn')))
      have hbl0 := jh hbl
      clear hS hv' hbl' htn' hB hv hbl htn
      go_wp2_with fail
      (try simp only [Exit.inBlock, Exit.then]); refine bodyPost_ret (results_none rfl _ _ _) rfl ?_
      obtain ⟨hS, hv', hbl', htn'⟩ := HH.out
      refine ⟨rfl, ⟨m, by omega, by omega, v, ?_, hv'⟩, hbl', htn'⟩
      rw [show (bad || !l.all inW) = true from ?_]
      ·exact hS
      ·rw [not_all HTS.out.2.1 (by unfold inW; rw [Bool.and_comm, jd (by have := h2'.out; omega), Bool.false_and])]; simp
     ·have h2' : decide (1125899906842624 < x) = false := jd h2
      have HX12 := jh (ja h1 h2)
      clear h1 h2
      go_wp2_with fail
      have hS := hB.set_ 1 (.bool false)
      have hv' := hv.setCell (o := 1) (Wr.own_ne hB hv (by decide)) (.bool false)
      have hbl' : Below base w (wr.setCell ⟨g, 1, none⟩ (.bool false)) := hbl.setCell (p := ⟨g, 1, none⟩) hg _
      have htn' : Turn g w (wr.setCell ⟨g, 1, none⟩ (.bool false)) := htn.trans (Turn.set_ 1 _)
      clear hB hv hbl htn y0 y1 f1 c0
      generalize (wr.setCell ⟨g, 1, none⟩ (.bool false)) = ws at *
      haveI : Nonempty (Wd (WrB g v false)) := ⟨⟨ws, hS⟩⟩
      have y0 := WrB.cell0 (g := g) (v := v) (b := false)
      have hsz := hbl'.size
      have hlt1 := hv'.lt
      refine wp_region_mix (.seg [0, 1, 2, 3, 4, 5, 6] 7 (.seg [] 8 (.seg [] 9 (.seg [] 10 (.last [] 11))))) (fun w' => ∃ d : Wd (WrB g v false), w' = d.w) (by kernel_rfl) (by kernel_rfl) (fun _ _ d _ _ h => by cases d <;> exact h) (ClsW.mk (D := WrB g v false) hS.drew) ?_
      unfold wpMix; simp only [pick, j1, j2, j3, j4]
      (repeat (show wpQuiet _ _ _ _ (_ :: _) _; go_big_quiet_step (fail))); refine qn ?_
      go_wp2_with fail
      refine (varint_any _ _ (wrap_u64_bd _).1 (wrap_u64_bd _).2).mono ?_
      rintro e w2 ⟨⟨v2, j, rfl, hv2, hj1, hj2⟩, hb2'⟩
      have hb2 : Below ws.heap.size ws w2 := (jb _ ws).drew.tr hb2'
      have hz2 := hb2.size
      have hS2 := hS.ext hb2
      clear hb2'
      go_wp2_with fail
      dsimp only [wpList, SegQ]
      refine ⟨fun w' => ∃ d : Wd (WrB g v false), w' = d.w, ClsW.mk (D := WrB g v false) hS2, fun _ h => h, ?_⟩
      unfold wpMix; simp only [pick, j1, j2, j3, j4]
      (repeat (show wpQuiet _ _ _ _ (_ :: _) _; go_big_quiet_step (fail))); refine qn ?_
      refine wpList_append_bts rfl (.tmp 35) (.tmp 38) rfl base ws.heap.size v m rfl (hv'.ext hb2) v2 j rfl hv2 (by omega) (fun g hg h => by have := (hlt1 g h.symm).2; omega) (by omega) (by omega) ?_
      intro v3 w3 hv3 hb3 hg3 hat3
      obtain ⟨A3, c3, rfl, _⟩ := hv3.form
      have hne3 : some g ≠ v.ownBlock := fun h => Wr.own_ne hS hv' (by decide) h.symm
      have hS3 := hS2.grown hg3 hne3
      go_simp
      dsimp only [wpList, SegQ]
      refine ⟨fun w' => ∃ d : Wd (WrB g v false), w' = d.w, ClsW.mk (D := WrB g v false) hS3, fun _ h => h, ?_⟩
      unfold wpMix; simp only [pick, j1, j2, j3, j4]
      (repeat (show wpQuiet _ _ _ _ (_ :: _) _; go_big_quiet_step (fail))); refine qn ?_
      go_wp2_with fail
      dsimp only [wpList, SegQ]
      refine ⟨fun w' => ∃ d : Wd (WrB g v false), w' = d.w, ClsW.mk (D := WrB g v false) hS3, fun _ h => h, ?_⟩
      unfold wpMix; simp only [pick, j1, j2, j3, j4]
      (repeat (show wpQuiet _ _ _ _ (_ :: _) _; go_big_quiet_step (fail))); refine qn ?_
      go_wp2_with fail
      dsimp only [wpList, SegQ]
      refine ⟨fun w' => ∃ d : Wd (WrB g v false), w' = d.w, ClsW.mk (D := WrB g v false) hS3, fun _ h => h, ?_⟩
      unfold wpMix; simp only [pick, j1, j2, j3, j4]
      (repeat (show wpQuiet _ _ _ _ (_ :: _) _; go_big_quiet_step (fail))); refine qn ?_
      have y1 : w3.cell? ⟨g, 0, none⟩ = some v := hS3.cell 0
      have f1 : w3.frozen? ⟨g, 0, none⟩ = false := hS3.frozen 0
      have hS4 := hS3.set_ 0 (.slice A3 (m + j) c3)
      have hv4 := hv3.setCell (o := 0) (Wr.own_ne hS3 hv3 (by decide)) (.slice A3 (m + j) c3)
      have hbl4 : Below base w (w3.setCell ⟨g, 0, none⟩ (.slice A3 (m + j) c3)) := ((hbl'.trans (hb2.mono (by have := hS.lt; omega))).trans hb3).setCell (p := ⟨g, 0, none⟩) hg _
      have htn4 : Turn g w (w3.setCell ⟨g, 0, none⟩ (.slice A3 (m + j) c3)) := ((htn'.trans (Turn.of_below hb2)).trans (Turn.grown (hv'.ext hb2) hg3)).trans (Turn.set_ 0 _)
      have HWK : Hid (wrap64 ((k : Int) + 1) = ((k + 1 : Nat) : Int)) := jh (by rw [wrap_in _ (by omega)]; rfl)
      have HH := jh (ja hS4 (ja hv4 (ja hbl4 htn4)))
      clear hS4 hv4 hbl4 htn4 hS hv' hbl' htn' hS2 hS3 hv3 hb3 hg3 hat3 hv2 hb2 y0
      go_wp2_with fail
      try dsimp only [wpList, SegQ, Exit.then, Exit.inBlock]
      go_at_K
      go_wp2_with fail
      go_round
      case rel =>
       obtain ⟨hS4, hv4, hbl4, htn4⟩ := HH.out
       refine ⟨k + 1, m + j, false, by omega, by first | rfl | rw [HWK.out], by omega, by omega, ⟨_, hS4, hv4⟩, ?_, (fun h => by cases h), hbl4, htn4⟩
       have h1 := HX.out.1
       have h2 : inW x = true := by unfold inW; rw [decide_eq_true (by have := HX12.out; omega), decide_eq_true (by have := HX12.out; omega)]; rfl
       rw [HTS.out.1, List.all_append]
       simp only [Bool.false_eq, Bool.or_eq_false_iff, Bool.not_eq_eq_eq_not, Bool.not_false] at h1
       rw [h1.1, h1.2]
       simp [h2]
      case measure => first | (simp [intOf]; omega) | (rw [HWK.out]; simp [intOf]; omega)
   ·have hS := hB.set_ 1 (.bool true)
    have hv' := hv.setCell (o := 1) (Wr.own_ne hB hv (by decide)) (.bool true)
    have hbl' : Below base w (wr.setCell ⟨g, 1, none⟩ (.bool true)) := hbl.setCell (p := ⟨g, 1, none⟩) hg _
    have htn' : Turn g w (wr.setCell ⟨g, 1, none⟩ (.bool true)) := htn.trans (Turn.set_ 1 _)
    have HH := jh (ja hS (ja hv' (ja hbl' htn')))
    have hbl0 := jh hbl
    clear hS hv' hbl' htn' hB hv hbl htn
    go_wp2_with fail
    (try simp only [Exit.inBlock, Exit.then]); refine bodyPost_ret (results_none rfl _ _ _) rfl ?_
    obtain ⟨hS, hv', hbl', htn'⟩ := HH.out
    refine ⟨rfl, ⟨m, by omega, by omega, v, ?_, hv'⟩, hbl', htn'⟩
    rw [show (bad || !l.all inW) = true from ?_]
    ·exact hS
    ·have h1 := HX.out.1
     have hk0 : k = 0 := by have := HX.out.2; simpa using this
     subst hk0
     simp at h1
     rw [h1]; rfl
  ·have hkn : k = l.length := by omega
   subst hkn
   go_wp2_with fail
   (try simp only [Exit.inBlock, Exit.then]); refine bodyPost_ret (results_none rfl _ _ _) rfl ?_
   have h1 := HX.out.1
   rw [List.take_length] at h1
   exact ⟨rfl, ⟨m, by omega, by omega, v, by rw [← h1]; exact hB, hv⟩, hbl, htn⟩
theorem Turn.same_blk {g b : Nat} {w : World} {t : TypeId} {cs : List Value} (hb : Blk w b t cs) (ht : t ≠ 5) (hg : b ≠ g) : ∀ W, Turn g w W → Same (· = b) w W := fun W h k hk _ => by
 subst hk
 exact (h.blk hb ht hg).trans hb.symm
theorem wsome_any (g base n n2 : Nat) (bad : Bool) (v2 : Value) (w0 w : World) (hW : Wr w0 base g bad n) (h0 : Below w0.heap.size w0 w) (hv2 : Bts w w0.heap.size v2 n2) (hn : n + n2 ≤ 95000000) (hg : base ≤ g) (hbz : base ≤ w0.heap.size) :
 Calls Tryz.prog 297 #[.pointer (some ⟨g, 0, none⟩), v2] w (WrOut g base (n + n2) (n + n2) (bad || decide (n2 = 0)) w) := by
 obtain ⟨v, hB0, hv0⟩ := hW
 have hB := hB0.ext h0
 have hv := hv0.ext h0
 have hlt0 := hv0.lt
 have hgl := hB.lt
 have hz0 := h0.size
 obtain ⟨A2, c2, rfl, hc1, hc2⟩ := hv2.form
 have hcase : bad = true ∨ (bad = false ∧ ((n2 : Int) == 0) = true ∧ n2 = 0) ∨ (bad = false ∧ ((n2 : Int) == 0) = false ∧ n2 ≠ 0) := by
  cases bad
  ·by_cases h : n2 = 0
   ·exact .inr (.inl ⟨rfl, by rw [h]; rfl, h⟩)
   ·exact .inr (.inr ⟨rfl, by rw [beq_eq_false_iff_ne]; omega, h⟩)
  ·exact .inl rfl
 have hres : ∀ b : Bool, b = (bad || decide (n2 = 0)) → Blk (w.setCell ⟨g, 1, none⟩ (.bool b)) g 326 [v, .bool b] := fun b _ => hB.set_ 1 (.bool b)
 rcases hcase with rfl | ⟨rfl, h2, h3⟩ | ⟨rfl, h2, h3⟩
 ·have hS := hres true (by simp [*])
  have HB : Hid (true = (true || decide (n2 = 0))) := jh (by simp [*])
  clear hres
  try clear h3
  have hv1 := hv.setCell (o := 1) (Wr.own_ne hB hv (by decide)) (.bool true)
  have hv21 := hv2.setCell (o := 1) (Wr.own_ne hB hv2 (by decide)) (.bool true)
  have y0 := hB.cell 1
  have f0 := hB.frozen 1
  have y1 : (w.setCell ⟨g, 1, none⟩ (.bool true)).cell? ⟨g, 0, none⟩ = some v := hS.cell 0
  have hz1 : (w.setCell ⟨g, 1, none⟩ (.bool true)).heap.size = w.heap.size := by simp
  have hl1 : Below base w (w.setCell ⟨g, 1, none⟩ (.bool true)) := (jb _ _).setCell (p := ⟨g, 1, none⟩) hg _
  have ht1 : Turn g w (w.setCell ⟨g, 1, none⟩ (.bool true)) := Turn.set_ 1 _
  have HH := jh (ja hS (ja hl1 ht1))
  clear hS hl1 ht1 hB hv hB0
  go_enter Tryz.func297, Tryz.ntmps297
  go_wp2_with (at_builtin; go_loud (refine wpList_append_bts rfl (.tmp 20) (.tmp 21) rfl base w0.heap.size v n rfl hv1 _ n2 rfl hv21 hbz (fun g hg h => by have := (hlt0 g h.symm).2; omega) (by omega) (by omega) ?_); intro v3 w3 hv3 hb3 hg3 hat3
   <;> (obtain ⟨hS, hl1, ht1⟩ := HH.out; obtain ⟨A3, c3, rfl, _⟩ := hv3.form; have hS3 := hS.grown hg3 (fun h => Wr.own_ne hS hv1 (by decide) h.symm); have y3 : w3.cell? ⟨g, 0, none⟩ = some v := hS3.cell 0; have f3 : w3.frozen? ⟨g, 0, none⟩ = false := hS3.frozen 0))
  (try simp only [Exit.inBlock, Exit.then]); refine bodyPost_end (results_none rfl _ _ _) rfl ?_
  have hS4 := hS3.set_ 0 (.slice A3 (n + n2) c3)
  have hv4 := hv3.setCell (o := 0) (Wr.own_ne hS3 hv3 (by decide)) (.slice A3 (n + n2) c3)
  exact ⟨rfl, ⟨n + n2, by omega, by omega, _, by rw [← HB.out]; exact hS4, hv4⟩, (hl1.trans hb3).setCell (p := ⟨g, 0, none⟩) hg _, (ht1.trans (Turn.grown hv1 hg3)).trans (Turn.set_ 0 _)⟩
 ·have hS := hres true (by simp [*])
  have HB : Hid (true = (false || decide (n2 = 0))) := jh (by simp [*])
  clear hres
  try clear h3
  have hv1 := hv.setCell (o := 1) (Wr.own_ne hB hv (by decide)) (.bool true)
  have hv21 := hv2.setCell (o := 1) (Wr.own_ne hB hv2 (by decide)) (.bool true)
  have y0 := hB.cell 1
  have f0 := hB.frozen 1
  have y1 : (w.setCell ⟨g, 1, none⟩ (.bool true)).cell? ⟨g, 0, none⟩ = some v := hS.cell 0
  have hz1 : (w.setCell ⟨g, 1, none⟩ (.bool true)).heap.size = w.heap.size := by simp
  have hl1 : Below base w (w.setCell ⟨g, 1, none⟩ (.bool true)) := (jb _ _).setCell (p := ⟨g, 1, none⟩) hg _
  have ht1 : Turn g w (w.setCell ⟨g, 1, none⟩ (.bool true)) := Turn.set_ 1 _
  have HH := jh (ja hS (ja hl1 ht1))
  clear hS hl1 ht1 hB hv hB0
  go_enter Tryz.func297, Tryz.ntmps297
  go_wp2_with (at_builtin; go_loud (refine wpList_append_bts rfl (.tmp 20) (.tmp 21) rfl base w0.heap.size v n rfl hv1 _ n2 rfl hv21 hbz (fun g hg h => by have := (hlt0 g h.symm).2; omega) (by omega) (by omega) ?_); intro v3 w3 hv3 hb3 hg3 hat3
   <;> (obtain ⟨hS, hl1, ht1⟩ := HH.out; obtain ⟨A3, c3, rfl, _⟩ := hv3.form; have hS3 := hS.grown hg3 (fun h => Wr.own_ne hS hv1 (by decide) h.symm); have y3 : w3.cell? ⟨g, 0, none⟩ = some v := hS3.cell 0; have f3 : w3.frozen? ⟨g, 0, none⟩ = false := hS3.frozen 0))
  (try simp only [Exit.inBlock, Exit.then]); refine bodyPost_end (results_none rfl _ _ _) rfl ?_
  have hS4 := hS3.set_ 0 (.slice A3 (n + n2) c3)
  have hv4 := hv3.setCell (o := 0) (Wr.own_ne hS3 hv3 (by decide)) (.slice A3 (n + n2) c3)
  exact ⟨rfl, ⟨n + n2, by omega, by omega, _, by rw [← HB.out]; exact hS4, hv4⟩, (hl1.trans hb3).setCell (p := ⟨g, 0, none⟩) hg _, (ht1.trans (Turn.grown hv1 hg3)).trans (Turn.set_ 0 _)⟩
 ·have hS := hres false (by simp [*])
  have HB : Hid (false = (false || decide (n2 = 0))) := jh (by simp [*])
  clear hres
  try clear h3
  have hv1 := hv.setCell (o := 1) (Wr.own_ne hB hv (by decide)) (.bool false)
  have hv21 := hv2.setCell (o := 1) (Wr.own_ne hB hv2 (by decide)) (.bool false)
  have y0 := hB.cell 1
  have f0 := hB.frozen 1
  have y1 : (w.setCell ⟨g, 1, none⟩ (.bool false)).cell? ⟨g, 0, none⟩ = some v := hS.cell 0
  have hz1 : (w.setCell ⟨g, 1, none⟩ (.bool false)).heap.size = w.heap.size := by simp
  have hl1 : Below base w (w.setCell ⟨g, 1, none⟩ (.bool false)) := (jb _ _).setCell (p := ⟨g, 1, none⟩) hg _
  have ht1 : Turn g w (w.setCell ⟨g, 1, none⟩ (.bool false)) := Turn.set_ 1 _
  have HH := jh (ja hS (ja hl1 ht1))
  clear hS hl1 ht1 hB hv hB0
  go_enter Tryz.func297, Tryz.ntmps297
  go_wp2_with (at_builtin; go_loud (refine wpList_append_bts rfl (.tmp 20) (.tmp 21) rfl base w0.heap.size v n rfl hv1 _ n2 rfl hv21 hbz (fun g hg h => by have := (hlt0 g h.symm).2; omega) (by omega) (by omega) ?_); intro v3 w3 hv3 hb3 hg3 hat3
   <;> (obtain ⟨hS, hl1, ht1⟩ := HH.out; obtain ⟨A3, c3, rfl, _⟩ := hv3.form; have hS3 := hS.grown hg3 (fun h => Wr.own_ne hS hv1 (by decide) h.symm); have y3 : w3.cell? ⟨g, 0, none⟩ = some v := hS3.cell 0; have f3 : w3.frozen? ⟨g, 0, none⟩ = false := hS3.frozen 0))
  (try simp only [Exit.inBlock, Exit.then]); refine bodyPost_end (results_none rfl _ _ _) rfl ?_
  have hS4 := hS3.set_ 0 (.slice A3 (n + n2) c3)
  have hv4 := hv3.setCell (o := 0) (Wr.own_ne hS3 hv3 (by decide)) (.slice A3 (n + n2) c3)
  exact ⟨rfl, ⟨n + n2, by omega, by omega, _, by rw [← HB.out]; exact hS4, hv4⟩, (hl1.trans hb3).setCell (p := ⟨g, 0, none⟩) hg _, (ht1.trans (Turn.grown hv1 hg3)).trans (Turn.set_ 0 _)⟩
theorem wmany_any (g base n : Nat) (bad : Bool) (x : Int) (w : World) (hW : Wr w base g bad n) (hx : i64 x) (hn : n ≤ 70000000) (hg : base ≤ g) :
 Calls Tryz.prog 298 #[.pointer (some ⟨g, 0, none⟩), .int .i64 x] w (WrOut g base n (n + 10) ((bad || decide (1000 < x)) || !inW x) w) := by
 obtain ⟨v, hB, hv⟩ := hW
 have hgl := hB.lt
 have hcase : bad = true ∨ (bad = false ∧ 1000 < x) ∨ (bad = false ∧ decide (1000 < x) = false) := by
  cases bad
  ·by_cases h : 1000 < x
   ·exact .inr (.inl ⟨rfl, h⟩)
   ·exact .inr (.inr ⟨rfl, jd h⟩)
  ·exact .inl rfl
 rcases hcase with rfl | ⟨rfl, h2⟩ | ⟨rfl, h2⟩
 ·have hS : Blk (w.setCell ⟨g, 1, none⟩ (.bool true)) g 326 [v, .bool true] := hB.set_ 1 (.bool true)
  have HB : Hid (true = (true || decide (1000 < x))) := jh (by simp [*])
  have hv1 := hv.setCell (o := 1) (Wr.own_ne hB hv (by decide)) (.bool true)
  have y0 := hB.cell 1
  have f0 := hB.frozen 1
  have hz1 : (w.setCell ⟨g, 1, none⟩ (.bool true)).heap.size = w.heap.size := by simp
  have hl1 : Below base w (w.setCell ⟨g, 1, none⟩ (.bool true)) := (jb _ _).setCell (p := ⟨g, 1, none⟩) hg _
  have ht1 : Turn g w (w.setCell ⟨g, 1, none⟩ (.bool true)) := Turn.set_ 1 _
  have hal : Below w.heap.size (w.setCell ⟨g, 1, none⟩ (.bool true)) ((w.setCell ⟨g, 1, none⟩ (.bool true)).alloc (.cells #[.int .i64 x] 3)) := (jb _ _).alloc (by omega) _
  have hnb := Blk.new (w.setCell ⟨g, 1, none⟩ (.bool true)) 3 [.int .i64 x]
  have hW3 : Wr ((w.setCell ⟨g, 1, none⟩ (.bool true)).alloc (.cells #[.int .i64 x] 3)) base g true n := ⟨v, hS.alloc _, hv1.ext ((jb _ _).al _)⟩
  have hrow : IntR.Row ((w.setCell ⟨g, 1, none⟩ (.bool true)).alloc (.cells #[.int .i64 x] 3)) (· = (w.setCell ⟨g, 1, none⟩ (.bool true)).heap.size) (some ⟨(w.setCell ⟨g, 1, none⟩ (.bool true)).heap.size, 0, none⟩) [x] :=
   (Rep.Row.new1 (P := fun _ => False) (R := IntR) (cs := [.int .i64 x]) (a := x) ⟨rfl, hx⟩).mono (fun k hk _ => hk.resolve_left id)
  have C := wnums_any g base n true _ 1 [x] _ _ hW3 hrow (by simp) hn hg (fun W _ ht => Turn.same_blk hnb (by decide) (by omega) W ht)
  have HH := jh (ja (hl1.trans (hal.mono (by omega))) (ht1.trans (Turn.of_below (hal.mono (by omega)))))
  clear hS hl1 ht1 hB hv hal hnb hW3 hrow hv1
  go_enter Tryz.func298, Tryz.ntmps298
  go_wp2_with fail
  rw [hz1] at C
  refine C.mono ?_
  clear C
  rintro e w3 ⟨rfl, ⟨m, hm1, hm2, hW4⟩, hb4, ht4⟩
  go_wp2_with fail
  (try simp only [Exit.inBlock, Exit.then]); refine bodyPost_end (results_none rfl _ _ _) rfl ?_
  refine ⟨rfl, ⟨m, hm1, by simpa using hm2, ?_⟩, HH.out.1.trans hb4, HH.out.2.trans ht4⟩
  rw [← HB.out]
  simpa using hW4
 ·have hS : Blk (w.setCell ⟨g, 1, none⟩ (.bool true)) g 326 [v, .bool true] := hB.set_ 1 (.bool true)
  have HB : Hid (true = (false || decide (1000 < x))) := jh (by simp [*])
  have hv1 := hv.setCell (o := 1) (Wr.own_ne hB hv (by decide)) (.bool true)
  have y0 := hB.cell 1
  have f0 := hB.frozen 1
  have hz1 : (w.setCell ⟨g, 1, none⟩ (.bool true)).heap.size = w.heap.size := by simp
  have hl1 : Below base w (w.setCell ⟨g, 1, none⟩ (.bool true)) := (jb _ _).setCell (p := ⟨g, 1, none⟩) hg _
  have ht1 : Turn g w (w.setCell ⟨g, 1, none⟩ (.bool true)) := Turn.set_ 1 _
  have hal : Below w.heap.size (w.setCell ⟨g, 1, none⟩ (.bool true)) ((w.setCell ⟨g, 1, none⟩ (.bool true)).alloc (.cells #[.int .i64 x] 3)) := (jb _ _).alloc (by omega) _
  have hnb := Blk.new (w.setCell ⟨g, 1, none⟩ (.bool true)) 3 [.int .i64 x]
  have hW3 : Wr ((w.setCell ⟨g, 1, none⟩ (.bool true)).alloc (.cells #[.int .i64 x] 3)) base g true n := ⟨v, hS.alloc _, hv1.ext ((jb _ _).al _)⟩
  have hrow : IntR.Row ((w.setCell ⟨g, 1, none⟩ (.bool true)).alloc (.cells #[.int .i64 x] 3)) (· = (w.setCell ⟨g, 1, none⟩ (.bool true)).heap.size) (some ⟨(w.setCell ⟨g, 1, none⟩ (.bool true)).heap.size, 0, none⟩) [x] :=
   (Rep.Row.new1 (P := fun _ => False) (R := IntR) (cs := [.int .i64 x]) (a := x) ⟨rfl, hx⟩).mono (fun k hk _ => hk.resolve_left id)
  have C := wnums_any g base n true _ 1 [x] _ _ hW3 hrow (by simp) hn hg (fun W _ ht => Turn.same_blk hnb (by decide) (by omega) W ht)
  have HH := jh (ja (hl1.trans (hal.mono (by omega))) (ht1.trans (Turn.of_below (hal.mono (by omega)))))
  clear hS hl1 ht1 hB hv hal hnb hW3 hrow hv1
  go_enter Tryz.func298, Tryz.ntmps298
  go_wp2_with fail
  rw [hz1] at C
  refine C.mono ?_
  clear C
  rintro e w3 ⟨rfl, ⟨m, hm1, hm2, hW4⟩, hb4, ht4⟩
  go_wp2_with fail
  (try simp only [Exit.inBlock, Exit.then]); refine bodyPost_end (results_none rfl _ _ _) rfl ?_
  refine ⟨rfl, ⟨m, hm1, by simpa using hm2, ?_⟩, HH.out.1.trans hb4, HH.out.2.trans ht4⟩
  rw [← HB.out]
  simpa using hW4
 ·have hS : Blk (w.setCell ⟨g, 1, none⟩ (.bool false)) g 326 [v, .bool false] := hB.set_ 1 (.bool false)
  have HB : Hid (false = (false || decide (1000 < x))) := jh (by simp [*])
  have hv1 := hv.setCell (o := 1) (Wr.own_ne hB hv (by decide)) (.bool false)
  have y0 := hB.cell 1
  have f0 := hB.frozen 1
  have hz1 : (w.setCell ⟨g, 1, none⟩ (.bool false)).heap.size = w.heap.size := by simp
  have hl1 : Below base w (w.setCell ⟨g, 1, none⟩ (.bool false)) := (jb _ _).setCell (p := ⟨g, 1, none⟩) hg _
  have ht1 : Turn g w (w.setCell ⟨g, 1, none⟩ (.bool false)) := Turn.set_ 1 _
  have hal : Below w.heap.size (w.setCell ⟨g, 1, none⟩ (.bool false)) ((w.setCell ⟨g, 1, none⟩ (.bool false)).alloc (.cells #[.int .i64 x] 3)) := (jb _ _).alloc (by omega) _
  have hnb := Blk.new (w.setCell ⟨g, 1, none⟩ (.bool false)) 3 [.int .i64 x]
  have hW3 : Wr ((w.setCell ⟨g, 1, none⟩ (.bool false)).alloc (.cells #[.int .i64 x] 3)) base g false n := ⟨v, hS.alloc _, hv1.ext ((jb _ _).al _)⟩
  have hrow : IntR.Row ((w.setCell ⟨g, 1, none⟩ (.bool false)).alloc (.cells #[.int .i64 x] 3)) (· = (w.setCell ⟨g, 1, none⟩ (.bool false)).heap.size) (some ⟨(w.setCell ⟨g, 1, none⟩ (.bool false)).heap.size, 0, none⟩) [x] :=
   (Rep.Row.new1 (P := fun _ => False) (R := IntR) (cs := [.int .i64 x]) (a := x) ⟨rfl, hx⟩).mono (fun k hk _ => hk.resolve_left id)
  have C := wnums_any g base n false _ 1 [x] _ _ hW3 hrow (by simp) hn hg (fun W _ ht => Turn.same_blk hnb (by decide) (by omega) W ht)
  have HH := jh (ja (hl1.trans (hal.mono (by omega))) (ht1.trans (Turn.of_below (hal.mono (by omega)))))
  clear hS hl1 ht1 hB hv hal hnb hW3 hrow hv1
  go_enter Tryz.func298, Tryz.ntmps298
  go_wp2_with fail
  rw [hz1] at C
  refine C.mono ?_
  clear C
  rintro e w3 ⟨rfl, ⟨m, hm1, hm2, hW4⟩, hb4, ht4⟩
  go_wp2_with fail
  (try simp only [Exit.inBlock, Exit.then]); refine bodyPost_end (results_none rfl _ _ _) rfl ?_
  refine ⟨rfl, ⟨m, hm1, by simpa using hm2, ?_⟩, HH.out.1.trans hb4, HH.out.2.trans ht4⟩
  rw [← HB.out]
  simpa using hW4
end Go.Proofs.YtcmjgghkmdbphaaGreatDoor
namespace Go.Proofs.YtcmjgghkmdbphaaGreatDoor
open Go.RowKit
def Stream.weight (s : Stream) : Nat := 300 + 1300 * s.events.length + 250 * s.keys.length
def weights (l : List Stream) : Nat := (l.map Stream.weight).sum
def listsBad (r : Rec) (f : Fields) : Bool :=
 (f.fNodes && ((decide ((1000 : Int) < r.nodes.length) || !inW r.nodes.length) || !r.nodes.all inW)) || (f.fStreams && ((decide ((1000 : Int) < r.streams.length) || !inW r.streams.length) || !r.streams.all streamB))
theorem weights_take {l : List Stream} {k : Nat} {s : Stream} (h : l[k]? = some s) : weights (l.take (k + 1)) = weights (l.take k) + s.weight := by
 unfold weights
 rw [List.take_add_one, h]; simp
theorem weights_le (l : List Stream) (k : Nat) : weights (l.take k) ≤ weights l := by
 unfold weights
 rw [← List.take_append_drop k l, List.map_append, List.sum_append, List.take_append_drop]; omega
theorem lists_b (r : Rec) (nA pA sA : Option Addr) (nc pc sc : Nat) (g base n0 : Nat) (bad : Bool) (P : Nat → Prop) (w : World) (hW : Wr w base g bad n0) (hr : RecAt w P r nA nc pA pc sA sc) (_hP : ∀ k, P k → k < base) (_hn : n0 ≤ 1000000) (_hg : base ≤ g) (hbw : base ≤ w.heap.size) (_hl : r.nodes.length ≤ 1000000) (_hl2 : r.streams.length ≤ 1000000) (hd : weights r.streams ≤ 50000000) (hd2 : ∀ s ∈ r.streams, s.events.length ≤ 40000 ∧ s.keys.length ≤ 40000) (_hTb : Tabs w) (_h2 : 2 ≤ base) :
 Calls Tryz.prog 254 #[.pointer (some ⟨g, 0, none⟩), .agg (r.cells nA nc pA pc sA sc).toArray, .agg (Fields.cells {fBatch := true, fStamp := true}).toArray] w (WrOut g base n0 (n0 + 11000000 + weights r.streams) (bad || listsBad r {fBatch := true, fStamp := true}) w) := by
 have HN := jh hr.nodes.2.2
 have HSt := jh hr.streams.2.2
 clear hr
 have hgl0 := hW.lt
 have B0 := (Blk.new w 46 (r.cells nA nc pA pc sA sc)).alloc (.cells (Fields.cells {fBatch := true, fStamp := true}).toArray 320)
 have B1 := Blk.new1 w (.cells (r.cells nA nc pA pc sA sc).toArray 46) 320 (Fields.cells {fBatch := true, fStamp := true})
 have HW' := jh hW
 have HD := jh (ja hd hd2)
 unfold Rec.cells Fields.cells at B0 B1 ⊢
 clear hd hd2 hW
 go_enter Tryz.func254, Tryz.ntmps254
 go_upto_region 1 with fail
 refine forget (M := fun W => Code.wp _ _ _ _ W) (fun W => Below w.heap.size w W ∧ Blk W w.heap.size 46 [.int .i64 r.kind, .int .i64 r.n, .int .i64 r.to, .bool r.yes, .int .i64 r.stamp.wall, .int .i64 r.stamp.logic, .int .i64 r.stamp.node, .int .i64 r.tx.node, .int .i64 r.tx.life, .int .i64 r.tx.num, .slice nA r.nodes.length nc, .string r.batch.key, .slice pA r.batch.puts.length pc, .int .i64 r.range.first, .int .i64 r.range.last, .int .i64 r.range.owner, .int .i64 r.range.epoch, .slice sA r.streams.length sc] ∧ Blk W (w.heap.size + 1) 320 [.bool false, .bool false, .bool false, .bool true, .bool false, .bool false, .bool true, .bool false, .bool false] ∧ w.heap.size + 2 = W.heap.size) ⟨((jb _ _).al _).al _, B0, B1, by simp⟩ ?_
 clear B0 B1
 rintro w0 ⟨hb0, B0, B1, hs0⟩
 have HW0 := HW'.out.turn hb0
 have hT0 : Turn g w0 w0 := Turn.refl
 have hB0 : Below base w0 w0 := jb _ _
 have hz0 := hB0.size
 have FX := jh (fun (W : World) (h : Turn g w0 W) => ja (recCells (h.blk B0 (by decide) (by omega))) (nineB false false false true false false true false false (h.blk B1 (by decide) (by omega))))
 obtain ⟨⟨c0, c1, c2, c3, c4, c5, c6, c7, c8, c9, c10, c11, c12, c13, c14, c15, c16, c17⟩, ⟨d0, d1, d2, d3, d4, d5, d6, d7, d8⟩⟩ := FX.out w0 hT0
 clear B0 B1
 go_wp2_with fail
 (try simp only [Exit.inBlock, Exit.then]); refine bodyPost_end (results_none rfl _ _ _) rfl ?_
 refine ⟨rfl, ⟨n0, by omega, by omega, ?_⟩, (hb0.mono hbw).trans hB0, (Turn.of_below hb0).trans hT0⟩
 have := HW0
 unfold listsBad
 simpa [Bool.or_assoc] using this
theorem lists_g (r : Rec) (nA pA sA : Option Addr) (nc pc sc : Nat) (g base n0 : Nat) (bad : Bool) (P : Nat → Prop) (w : World) (hW : Wr w base g bad n0) (hr : RecAt w P r nA nc pA pc sA sc) (_hP : ∀ k, P k → k < base) (_hn : n0 ≤ 1000000) (_hg : base ≤ g) (hbw : base ≤ w.heap.size) (_hl : r.nodes.length ≤ 1000000) (_hl2 : r.streams.length ≤ 1000000) (hd : weights r.streams ≤ 50000000) (hd2 : ∀ s ∈ r.streams, s.events.length ≤ 40000 ∧ s.keys.length ≤ 40000) (_hTb : Tabs w) (_h2 : 2 ≤ base) :
 Calls Tryz.prog 254 #[.pointer (some ⟨g, 0, none⟩), .agg (r.cells nA nc pA pc sA sc).toArray, .agg (Fields.cells {fSpan := true, fTo := true}).toArray] w (WrOut g base n0 (n0 + 11000000 + weights r.streams) (bad || listsBad r {fSpan := true, fTo := true}) w) := by
 have HN := jh hr.nodes.2.2
 have HSt := jh hr.streams.2.2
 clear hr
 have hgl0 := hW.lt
 have B0 := (Blk.new w 46 (r.cells nA nc pA pc sA sc)).alloc (.cells (Fields.cells {fSpan := true, fTo := true}).toArray 320)
 have B1 := Blk.new1 w (.cells (r.cells nA nc pA pc sA sc).toArray 46) 320 (Fields.cells {fSpan := true, fTo := true})
 have HW' := jh hW
 have HD := jh (ja hd hd2)
 unfold Rec.cells Fields.cells at B0 B1 ⊢
 clear hd hd2 hW
 go_enter Tryz.func254, Tryz.ntmps254
 go_upto_region 1 with fail
 refine forget (M := fun W => Code.wp _ _ _ _ W) (fun W => Below w.heap.size w W ∧ Blk W w.heap.size 46 [.int .i64 r.kind, .int .i64 r.n, .int .i64 r.to, .bool r.yes, .int .i64 r.stamp.wall, .int .i64 r.stamp.logic, .int .i64 r.stamp.node, .int .i64 r.tx.node, .int .i64 r.tx.life, .int .i64 r.tx.num, .slice nA r.nodes.length nc, .string r.batch.key, .slice pA r.batch.puts.length pc, .int .i64 r.range.first, .int .i64 r.range.last, .int .i64 r.range.owner, .int .i64 r.range.epoch, .slice sA r.streams.length sc] ∧ Blk W (w.heap.size + 1) 320 [.bool false, .bool true, .bool false, .bool false, .bool false, .bool false, .bool false, .bool true, .bool false] ∧ w.heap.size + 2 = W.heap.size) ⟨((jb _ _).al _).al _, B0, B1, by simp⟩ ?_
 clear B0 B1
 rintro w0 ⟨hb0, B0, B1, hs0⟩
 have HW0 := HW'.out.turn hb0
 have hT0 : Turn g w0 w0 := Turn.refl
 have hB0 : Below base w0 w0 := jb _ _
 have hz0 := hB0.size
 have FX := jh (fun (W : World) (h : Turn g w0 W) => ja (recCells (h.blk B0 (by decide) (by omega))) (nineB false true false false false false false true false (h.blk B1 (by decide) (by omega))))
 obtain ⟨⟨c0, c1, c2, c3, c4, c5, c6, c7, c8, c9, c10, c11, c12, c13, c14, c15, c16, c17⟩, ⟨d0, d1, d2, d3, d4, d5, d6, d7, d8⟩⟩ := FX.out w0 hT0
 clear B0 B1
 go_wp2_with fail
 (try simp only [Exit.inBlock, Exit.then]); refine bodyPost_end (results_none rfl _ _ _) rfl ?_
 refine ⟨rfl, ⟨n0, by omega, by omega, ?_⟩, (hb0.mono hbw).trans hB0, (Turn.of_below hb0).trans hT0⟩
 have := HW0
 unfold listsBad
 simpa [Bool.or_assoc] using this
theorem lists_h (r : Rec) (nA pA sA : Option Addr) (nc pc sc : Nat) (g base n0 : Nat) (bad : Bool) (P : Nat → Prop) (w : World) (hW : Wr w base g bad n0) (hr : RecAt w P r nA nc pA pc sA sc) (hP : ∀ k, P k → k < base) (hn : n0 ≤ 1000000) (hg : base ≤ g) (hbw : base ≤ w.heap.size) (_hl : r.nodes.length ≤ 1000000) (hl2 : r.streams.length ≤ 1000000) (hd : weights r.streams ≤ 50000000) (hd2 : ∀ s ∈ r.streams, s.events.length ≤ 40000 ∧ s.keys.length ≤ 40000) (hTb : Tabs w) (h2 : 2 ≤ base) :
 Calls Tryz.prog 254 #[.pointer (some ⟨g, 0, none⟩), .agg (r.cells nA nc pA pc sA sc).toArray, .agg (Fields.cells {fSpan := true, fStamp := true, fStreams := true}).toArray] w (WrOut g base n0 (n0 + 11000000 + weights r.streams) (bad || listsBad r {fSpan := true, fStamp := true, fStreams := true}) w) := by
 have HN := jh hr.nodes.2.2
 have HSt := jh hr.streams.2.2
 clear hr
 have hgl0 := hW.lt
 have B0 := (Blk.new w 46 (r.cells nA nc pA pc sA sc)).alloc (.cells (Fields.cells {fSpan := true, fStamp := true, fStreams := true}).toArray 320)
 have B1 := Blk.new1 w (.cells (r.cells nA nc pA pc sA sc).toArray 46) 320 (Fields.cells {fSpan := true, fStamp := true, fStreams := true})
 have HW' := jh hW
 have HD := jh (ja hd hd2)
 unfold Rec.cells Fields.cells at B0 B1 ⊢
 clear hd hd2 hW
 go_enter Tryz.func254, Tryz.ntmps254
 go_upto_region 1 with fail
 refine forget (M := fun W => Code.wp _ _ _ _ W) (fun W => Below w.heap.size w W ∧ Blk W w.heap.size 46 [.int .i64 r.kind, .int .i64 r.n, .int .i64 r.to, .bool r.yes, .int .i64 r.stamp.wall, .int .i64 r.stamp.logic, .int .i64 r.stamp.node, .int .i64 r.tx.node, .int .i64 r.tx.life, .int .i64 r.tx.num, .slice nA r.nodes.length nc, .string r.batch.key, .slice pA r.batch.puts.length pc, .int .i64 r.range.first, .int .i64 r.range.last, .int .i64 r.range.owner, .int .i64 r.range.epoch, .slice sA r.streams.length sc] ∧ Blk W (w.heap.size + 1) 320 [.bool false, .bool false, .bool false, .bool true, .bool false, .bool false, .bool false, .bool true, .bool true] ∧ w.heap.size + 2 = W.heap.size) ⟨((jb _ _).al _).al _, B0, B1, by simp⟩ ?_
 clear B0 B1
 rintro w0 ⟨hb0, B0, B1, hs0⟩
 have HW0 := HW'.out.turn hb0
 have hT0 : Turn g w0 w0 := Turn.refl
 have hB0 : Below base w0 w0 := jb _ _
 have hz0 := hB0.size
 have FX := jh (fun (W : World) (h : Turn g w0 W) => ja (recCells (h.blk B0 (by decide) (by omega))) (nineB false false false true false false false true true (h.blk B1 (by decide) (by omega))))
 obtain ⟨⟨c0, c1, c2, c3, c4, c5, c6, c7, c8, c9, c10, c11, c12, c13, c14, c15, c16, c17⟩, ⟨d0, d1, d2, d3, d4, d5, d6, d7, d8⟩⟩ := FX.out w0 hT0
 clear B0 B1
 go_wp2_with fail
 refine (wmany_any g base n0 _ (r.streams.length : Int) w0 HW0 ⟨by omega, by omega⟩ (by omega) hg).mono ?_
 rintro en w1 ⟨rfl, ⟨n1, hm1, hn1, HW1⟩, hb, ht⟩
 have hT1 := hT0.trans ht
 have hB1 := hB0.trans hb
 have hz1 := hB1.size
 clear hb ht
 clear c0 c1 c2 c3 c4 c5 c6 c7 c8 c9 c10 c11 c12 c13 c14 c15 c16 c17 d0 d1 d2 d3 d4 d5 d6 d7 d8
 obtain ⟨⟨c0, c1, c2, c3, c4, c5, c6, c7, c8, c9, c10, c11, c12, c13, c14, c15, c16, c17⟩, ⟨d0, d1, d2, d3, d4, d5, d6, d7, d8⟩⟩ := FX.out w1 hT1
 go_wp2_with fail
 generalize hbd : ((bad || decide ((1000 : Int) < r.streams.length)) || !inW r.streams.length) = bd at *
 have HWH := jh HW1
 have HBD := jh hbd
 clear hbd HW1
 clear c0 c1 c2 c3 c4 c5 c6 c7 c8 c9 c10 c11 c12 c13 c14 c15 c16 c17 d0 d1 d2 d3 d4 d5 d6 d7 d8
 go_loopw [6] (fun i wr => ∃ (k m : Nat) (b : Bool), k ≤ r.streams.length ∧ i = .int .i64 k ∧ n1 ≤ m ∧ m ≤ n1 + weights (r.streams.take k) ∧ Wr wr base g b m ∧ b = (bd || !(r.streams.take k).all streamB) ∧ Below base w0 wr ∧ Turn g w0 wr) (fun i _ => r.streams.length - (intOf i).toNat)
 case atStart => exact ⟨0, n1, bd, Nat.zero_le _, rfl, by omega, by omega, HWH.out, by simp, hB1, hT1⟩
 case round =>
  obtain ⟨k, m, b, hkl, rfl, hm1, hm2, HWr, hbad, hBr, hTr⟩ := hrel
  have HX := jh hbad
  clear hbad
  have hzr := hBr.size
  have hwl := weights_le r.streams k
  have hdw := HD.out.1
  obtain ⟨⟨c0, c1, c2, c3, c4, c5, c6, c7, c8, c9, c10, c11, c12, c13, c14, c15, c16, c17⟩, ⟨d0, d1, d2, d3, d4, d5, d6, d7, d8⟩⟩ := FX.out wr hTr
  obtain ⟨v, hBk, hv⟩ := HWr
  have y1 : wr.cell? ⟨g, 1, none⟩ = some (.bool b) := hBk.cell 1
  have HWr : Wr wr base g b m := ⟨v, hBk, hv⟩
  have hglr := hBk.lt
  clear hBk hv
  by_cases hlt : k < r.streams.length
  ·have hlk := jg hlt
   have hlt' : (k : Int) < r.streams.length := by omega
   cases b
   ·have hwt := weights_take hlk
    have hwl1 := weights_le r.streams (k + 1)
    have hds := HD.out.2 _ (List.getElem_mem hlt)
    have HWK : Hid (wrap64 ((k : Int) + 1) = ((k + 1 : Nat) : Int)) := jh (by rw [wrap_in _ (by omega)]; rfl)
    have hlow : Below base w wr := (hb0.mono hbw).trans hBr
    obtain ⟨bb, o, cs, rfl, hPb, hbw2, hrep, hcs⟩ := (HSt.out.same (Same.of_belowB hlow hP) (by have := hb0.size; omega)).at_ hlk
    generalize r.streams[k] = s at *
    obtain ⟨eA, ec, kA, kc, rfl, s1, s2, s3, s4, s5, s6, s7⟩ := stream_rep.1 hrep
    have c0 := hcs 0 _ rfl; have c1 := hcs 1 _ rfl; have c2 := hcs 2 _ rfl; simp only [StreamR_size, Nat.add_zero] at c0 c1 c2
    have CE := encodeS_any s eA kA ec kc P wr s1 s4 s7 hds.1 hds.2 (hTb.only (Only.of_belowB hlow (fun g hg => hg)) (by omega) (by omega)) (by have := hb0.size; omega)
    have HLK := jh (ja hlk hwt)
    have HWT := jh (show m + s.weight ≤ 90000000 from by omega)
    clear hlk hwt hrep hcs s1 s2 s3 s4 s5 s6 s7 hds hwl1
    go_wp2_with fail
    refine CE.mono ?_
    clear CE
    rintro en wx ⟨hres, hbx⟩
    have hzx := hbx.size
    have hx : ∃ v2 n2, en = .returned v2 ∧ Bts wx wr.heap.size v2 n2 ∧ n2 ≤ s.weight ∧ decide (n2 = 0) = !(streamB s) := by
     unfold Stream.weight
     cases hok : streamB s
     ·rw [hok] at hres
      exact ⟨_, 0, hres.out0, Bts.nil_ _ _, by omega, rfl⟩
     ·rw [hok] at hres
      obtain ⟨v2, n2, rfl, hv2, hn2, hn2'⟩ := hres.out1
      exact ⟨v2, n2, rfl, hv2, by omega, jd (by omega)⟩
    obtain ⟨v2, n2, rfl, hv2, hn2, hok⟩ := hx
    clear hres
    obtain ⟨A2, z2, rfl, _⟩ := hv2.form
    clear c0 c1 c2 c3 c4 c5 c6 c7 c8 c9 c10 c11 c12 c13 c14 c15 c16 c17 d0 d1 d2 d3 d4 d5 d6 d7 d8 y1
    go_wp2_with fail
    have hsome := wsome_any g base m n2 _ _ wr wx HWr hbx hv2 (by have := HWT.out; omega) hg (by omega)
    rw [hok] at hsome
    refine hsome.mono ?_
    rintro en w5 ⟨rfl, ⟨m5, hm5, hn5, HW5⟩, hb', ht'⟩
    have hb : Below base w0 w5 := (hBr.trans (hbx.mono (by omega))).trans hb'
    have ht : Turn g w0 w5 := (hTr.trans (Turn.of_below hbx)).trans ht'
    clear hb' ht' hbx hsome hv2 hok
    go_wp2_with fail
    go_round
    case rel =>
     refine ⟨k + 1, m5, _, by omega, by first | rfl | rw [HWK.out], by omega, by have := HLK.out.2; omega, HW5, ?_, hb, ht⟩
     have h1 := HX.out
     rw [List.take_add_one, HLK.out.1, List.all_append]
     simp only [Bool.false_eq, Bool.or_eq_false_iff, Bool.not_eq_eq_eq_not, Bool.not_false] at h1
     rw [h1.1, h1.2]
     simp
    case measure => first | (simp [intOf]; omega) | (rw [HWK.out]; simp [intOf]; omega)
   ·have h1 := HX.out
    have hbb : (bd || !r.streams.all streamB) = true := by
     cases bd
     ·have h2 : (r.streams.take k).all streamB = false := by simpa using h1
      have h3 : r.streams.all streamB = false := by
       rw [Bool.eq_false_iff]
       intro h
       rw [Bool.eq_false_iff] at h2
       exact h2 (List.all_eq_true.2 fun x hx => List.all_eq_true.1 h x (List.mem_of_mem_take hx))
      rw [h3]; rfl
     ·rfl
    have HBB := jh hbb
    clear hbb h1
    go_wp2_with fail
    (try simp only [Exit.inBlock, Exit.then]); refine bodyPost_end (results_none rfl _ _ _) rfl ?_
    refine ⟨rfl, ⟨m, by omega, by omega, ?_⟩, (hb0.mono hbw).trans hBr, (Turn.of_below hb0).trans hTr⟩
    rw [show (bad || listsBad r _) = true from ?_]
    ·exact HWr
    ·have h2 := HBB.out
     rw [← HBD.out] at h2
     unfold listsBad
     simpa [Bool.or_assoc] using h2
  ·have hkn : k = r.streams.length := by omega
   subst hkn
   go_wp2_with fail
   (try simp only [Exit.inBlock, Exit.then]); refine bodyPost_end (results_none rfl _ _ _) rfl ?_
   refine ⟨rfl, ⟨m, by omega, by omega, ?_⟩, (hb0.mono hbw).trans hBr, (Turn.of_below hb0).trans hTr⟩
   have h2 := HX.out
   rw [List.take_length, ← HBD.out] at h2
   rw [show (bad || listsBad r _) = b from ?_]
   ·exact HWr
   ·rw [h2]
    unfold listsBad
    simp [Bool.or_assoc]
theorem lists_i (r : Rec) (nA pA sA : Option Addr) (nc pc sc : Nat) (g base n0 : Nat) (bad : Bool) (P : Nat → Prop) (w : World) (hW : Wr w base g bad n0) (hr : RecAt w P r nA nc pA pc sA sc) (_hP : ∀ k, P k → k < base) (_hn : n0 ≤ 1000000) (_hg : base ≤ g) (hbw : base ≤ w.heap.size) (_hl : r.nodes.length ≤ 1000000) (_hl2 : r.streams.length ≤ 1000000) (hd : weights r.streams ≤ 50000000) (hd2 : ∀ s ∈ r.streams, s.events.length ≤ 40000 ∧ s.keys.length ≤ 40000) (_hTb : Tabs w) (_h2 : 2 ≤ base) :
 Calls Tryz.prog 254 #[.pointer (some ⟨g, 0, none⟩), .agg (r.cells nA nc pA pc sA sc).toArray, .agg (Fields.cells {fSpan := true}).toArray] w (WrOut g base n0 (n0 + 11000000 + weights r.streams) (bad || listsBad r {fSpan := true}) w) := by
 have HN := jh hr.nodes.2.2
 have HSt := jh hr.streams.2.2
 clear hr
 have hgl0 := hW.lt
 have B0 := (Blk.new w 46 (r.cells nA nc pA pc sA sc)).alloc (.cells (Fields.cells {fSpan := true}).toArray 320)
 have B1 := Blk.new1 w (.cells (r.cells nA nc pA pc sA sc).toArray 46) 320 (Fields.cells {fSpan := true})
 have HW' := jh hW
 have HD := jh (ja hd hd2)
 unfold Rec.cells Fields.cells at B0 B1 ⊢
 clear hd hd2 hW
 go_enter Tryz.func254, Tryz.ntmps254
 go_upto_region 1 with fail
 refine forget (M := fun W => Code.wp _ _ _ _ W) (fun W => Below w.heap.size w W ∧ Blk W w.heap.size 46 [.int .i64 r.kind, .int .i64 r.n, .int .i64 r.to, .bool r.yes, .int .i64 r.stamp.wall, .int .i64 r.stamp.logic, .int .i64 r.stamp.node, .int .i64 r.tx.node, .int .i64 r.tx.life, .int .i64 r.tx.num, .slice nA r.nodes.length nc, .string r.batch.key, .slice pA r.batch.puts.length pc, .int .i64 r.range.first, .int .i64 r.range.last, .int .i64 r.range.owner, .int .i64 r.range.epoch, .slice sA r.streams.length sc] ∧ Blk W (w.heap.size + 1) 320 [.bool false, .bool false, .bool false, .bool false, .bool false, .bool false, .bool false, .bool true, .bool false] ∧ w.heap.size + 2 = W.heap.size) ⟨((jb _ _).al _).al _, B0, B1, by simp⟩ ?_
 clear B0 B1
 rintro w0 ⟨hb0, B0, B1, hs0⟩
 have HW0 := HW'.out.turn hb0
 have hT0 : Turn g w0 w0 := Turn.refl
 have hB0 : Below base w0 w0 := jb _ _
 have hz0 := hB0.size
 have FX := jh (fun (W : World) (h : Turn g w0 W) => ja (recCells (h.blk B0 (by decide) (by omega))) (nineB false false false false false false false true false (h.blk B1 (by decide) (by omega))))
 obtain ⟨⟨c0, c1, c2, c3, c4, c5, c6, c7, c8, c9, c10, c11, c12, c13, c14, c15, c16, c17⟩, ⟨d0, d1, d2, d3, d4, d5, d6, d7, d8⟩⟩ := FX.out w0 hT0
 clear B0 B1
 go_wp2_with fail
 (try simp only [Exit.inBlock, Exit.then]); refine bodyPost_end (results_none rfl _ _ _) rfl ?_
 refine ⟨rfl, ⟨n0, by omega, by omega, ?_⟩, (hb0.mono hbw).trans hB0, (Turn.of_below hb0).trans hT0⟩
 have := HW0
 unfold listsBad
 simpa [Bool.or_assoc] using this
end Go.Proofs.YtcmjgghkmdbphaaGreatDoor
