/- rec.writer: numbers, bytes. -/
import Derived.Test.YtcmjgghkmdbphaaGreatDoorS06
set_option maxRecDepth 20000
set_option maxHeartbeats 25600000
namespace Go.Proofs.YtcmjgghkmdbphaaGreatDoor
open Go.RowKit
def ByteF (g : Nat) (w : World) (k : Nat) : Prop := k = g ∨ ∃ cs fr, w.heap[k]? = some (.cells cs 5 fr)
def Turn (g : Nat) (w w' : World) : Prop := Only (ByteF g w) w w'
section
variable {g : Nat} {w w' w'' : World}
theorem Turn.refl : Turn g w w := Only.refl _ _
theorem Turn.trans (h : Turn g w w') (k : Turn g w' w'') : Turn g w w'' := Only.trans h k fun b hb hf => by
 rcases hf with e | ⟨cs, fr, hh⟩
 ·exact .inl e
 ·by_cases hF : ByteF g w b
  ·exact hF
  ·exact .inr ⟨cs, fr, (h.block b hb hF).symm.trans hh⟩
theorem Turn.of_below (h : Below w.heap.size w w') : Turn g w w' := jo h
theorem Turn.set_ (o : Nat) (u : Value) : Turn g w (w.setCell ⟨g, o, none⟩ u) := Only.set_ (.inl rfl) u
theorem Turn.grown {v : Value} {base n : Nat} (hv : Bts w base v n) (hg : w.grownBy w' v.ownBlock) : Turn g w w' := Only.grown hg fun k hk => by
 obtain ⟨l, hl, xs, h1, h2⟩ := hv
 rcases h1.2 with ⟨rfl, _⟩ | ⟨g', cap, cur, rfl, _, hh, _⟩
 ·simp [Value.ownBlock] at hk
 ·simp [Value.ownBlock] at hk; subst hk; exact .inr ⟨_, _, hh⟩
theorem Turn.blk {b : Nat} {t : TypeId} {cs : List Value} (h : Turn g w w') (hb : Blk w b t cs) (ht : t ≠ 5) (hg : b ≠ g) : Blk w' b t cs := (h.block b hb.lt (fun hf => by
 rcases hf with e | ⟨cs', fr, hh⟩
 ·exact hg e
 ·unfold Blk at hb; rw [hb] at hh; injection hh with hh; injection hh with _ h2; exact ht h2)).trans hb
end
def Wr (w : World) (base g : Nat) (bad : Bool) (n : Nat) : Prop := ∃ v, Blk w g 326 [v, .bool bad] ∧ Bts w base v n
theorem Wr.turn {w w' : World} {base g n : Nat} {bad : Bool} (h : Wr w base g bad n) (hb : Below w.heap.size w w') : Wr w' base g bad n := by
 obtain ⟨v, h1, h2⟩ := h
 exact ⟨v, h1.ext hb, h2.ext hb⟩
theorem Wr.lt {w : World} {base g n : Nat} {bad : Bool} (h : Wr w base g bad n) : g < w.heap.size := by
 obtain ⟨v, h1, h2⟩ := h
 exact h1.lt
theorem Wr.own_ne {w : World} {base g n : Nat} {v : Value} {t : TypeId} {cs : List Value} (h1 : Blk w g t cs) (h2 : Bts w base v n) (ht : t ≠ 5) : v.ownBlock ≠ some g := by
 obtain ⟨l, hl, xs, ho, _⟩ := h2
 exact own_blk_ne ho h1 (fun e => ht e.symm)
theorem Bts.setCell {w : World} {base n g o : Nat} {v : Value} (h : Bts w base v n) (hg : v.ownBlock ≠ some g) (u : Value) : Bts (w.setCell ⟨g, o, none⟩ u) base v n := by
 obtain ⟨xs, h1, h2⟩ := h.raw
 refine Bts.of_raw (xs := xs) ⟨h1.1, ?_⟩ h2
 rcases h1.2 with hn | ⟨g', cap, cur, hv, hbg, hh, rest⟩
 ·exact .inl hn
 ·exact .inr ⟨g', cap, cur, hv, hbg, (Below.heap_setCell w ⟨g, o, none⟩ u g' (fun e => hg (by rw [hv]; exact congrArg some e))).trans hh, rest⟩
def WrB (g : Nat) (v : Value) (b : Bool) (W : World) : Prop := Blk W g 326 [v, .bool b]
theorem WrB.cell0 {g : Nat} {v : Value} {b : Bool} (d : Wd (WrB g v b)) : d.w.cell? ⟨g, 0, none⟩ = some v := Blk.cell d.ok 0
def WrOut (g base lo hi : Nat) (bad : Bool) (w : World) (e : Ending) (w' : World) : Prop := e = .returned (.tuple #[]) ∧ (∃ n, lo ≤ n ∧ n ≤ hi ∧ Wr w' base g bad n) ∧ Below base w w' ∧ Turn g w w'
def inW (n : Int) : Bool := decide (0 ≤ n) && decide (n ≤ 1125899906842624)
theorem wnums_any (g base n : Nat) (bad : Bool) (A : Option Addr) (c : Nat) (l : List Int) (P : Nat → Prop) (w : World) (hW : Wr w base g bad n) (hr : IntR.Row w P A l) (hl : l.length ≤ 1000000) (hn : n ≤ 70000000) (hg : base ≤ g)
 (hd : ∀ W, Below base w W → Turn g w W → Same P w W) :
 Calls Tryz.prog 296 #[.pointer (some ⟨g, 0, none⟩), .slice A l.length c] w (WrOut g base n (n + 10 * l.length) (bad || !l.all inW) w) := by
 have HR := jh hr; clear hr
 have HD := jh hd; clear hd
 have hgl := hW.lt
 go_enter Tryz.func296, Tryz.ntmps296
 go_wp2
 go_loopw [5, 8] (fun _ i wr => ∃ (k m : Nat) (b : Bool), k ≤ l.length ∧ i = .int .i64 k ∧ n ≤ m ∧ m ≤ n + 10 * k ∧ Wr wr base g b m ∧ b = (bad || !(l.take k).all inW) ∧ (b = true → k = 0) ∧ Below base w wr ∧ Turn g w wr) (fun _ i _ => l.length - (intOf i).toNat)
 case atStart => exact ⟨0, n, bad, Nat.zero_le _, rfl, by omega, by omega, hW, by simp, fun _ => rfl, jb _ _, Turn.refl⟩
 case round =>
  obtain ⟨k, m, b, hkl, rfl, hm1, hm2, ⟨v, hB, hv⟩, hbad, hb0, hbl, htn⟩ := hrel
  have HX := jh (ja hbad hb0); clear hbad hb0
  have hzr := hbl.size
  by_cases hlt : k < l.length
  ·have hlk := jg hlt
   obtain ⟨bb, o, cs, rfl, hP, hbw, ⟨rfl, hi0, hi1⟩, hcs⟩ := (HR.out.same (HD.out _ hbl htn) hzr).at_ hlk
   have hts := take_snoc l k hlt
   generalize l[k] = x at *
   have c0 := hcs 0 _ rfl; simp only [IntR_size, Nat.add_zero, Nat.mul_one] at c0
   have HTS := jh (ja hts (ja hlk hcs)); clear hts hlk hcs
   have hlt' : (k : Int) < l.length := by omega
   have y0 : wr.cell? ⟨g, 0, none⟩ = some v := hB.cell 0
   have y1 : wr.cell? ⟨g, 1, none⟩ = some (.bool b) := hB.cell 1
   have f1 : wr.frozen? ⟨g, 1, none⟩ = false := hB.frozen 1
   have hsz1 : (wr.setCell ⟨g, 1, none⟩ (.bool false)).heap.size = wr.heap.size := by simp
   cases b
   ·by_cases h1 : x < 0
    ·have h1' := jh h1
     have hS := hB.set_ 1 (.bool true)
     have hv' := hv.setCell (o := 1) (Wr.own_ne hB hv (by decide)) (.bool true)
     have hbl' : Below base w (wr.setCell ⟨g, 1, none⟩ (.bool true)) := hbl.setCell (p := ⟨g, 1, none⟩) hg _
     have htn' : Turn g w (wr.setCell ⟨g, 1, none⟩ (.bool true)) := htn.trans (Turn.set_ 1 _)
     have HH := jh (ja hS (ja hv' (ja hbl' htn')))
     have hbl0 := jh hbl
     clear hS hv' hbl' htn' hB hv hbl htn
     go_wp2_with fail
     (try simp only [Exit.inBlock, Exit.then]); refine bodyPost_ret (results_none rfl _ _ _) rfl ?_
     obtain ⟨hS, hv', hbl', htn'⟩ := HH.out
     refine ⟨rfl, ⟨m, by omega, by omega, v, ?_, hv'⟩, hbl', htn'⟩
     rw [show (bad || !l.all inW) = true from ?_]
     ·exact hS
     ·rw [not_all HTS.out.2.1 (by unfold inW; rw [jd (by have := h1'.out; omega), Bool.false_and])]; simp
    ·have h1' : decide (x < 0) = false := jd h1
     by_cases h2 : 1125899906842624 < x
     ·have h2' := jh h2
      clear h1
      have hS := hB.set_ 1 (.bool true)
      have hv' := hv.setCell (o := 1) (Wr.own_ne hB hv (by decide)) (.bool true)
      have hbl' : Below base w (wr.setCell ⟨g, 1, none⟩ (.bool true)) := hbl.setCell (p := ⟨g, 1, none⟩) hg _
      have htn' : Turn g w (wr.setCell ⟨g, 1, none⟩ (.bool true)) := htn.trans (Turn.set_ 1 _)
      have HH := jh (ja hS (ja hv' (ja hbl' htn')))
      have hbl0 := jh hbl
      clear hS hv' hbl' htn' hB hv hbl htn
      go_wp2_with fail
      (try simp only [Exit.inBlock, Exit.then]); refine bodyPost_ret (results_none rfl _ _ _) rfl ?_
      obtain ⟨hS, hv', hbl', htn'⟩ := HH.out
      refine ⟨rfl, ⟨m, by omega, by omega, v, ?_, hv'⟩, hbl', htn'⟩
      rw [show (bad || !l.all inW) = true from ?_]
      ·exact hS
      ·rw [not_all HTS.out.2.1 (by unfold inW; rw [Bool.and_comm, jd (by have := h2'.out; omega), Bool.false_and])]; simp
     ·have h2' : decide (1125899906842624 < x) = false := jd h2
      have HX12 := jh (ja h1 h2)
      clear h1 h2
      go_wp2_with fail
      have hS := hB.set_ 1 (.bool false)
      have hv' := hv.setCell (o := 1) (Wr.own_ne hB hv (by decide)) (.bool false)
      have hbl' : Below base w (wr.setCell ⟨g, 1, none⟩ (.bool false)) := hbl.setCell (p := ⟨g, 1, none⟩) hg _
      have htn' : Turn g w (wr.setCell ⟨g, 1, none⟩ (.bool false)) := htn.trans (Turn.set_ 1 _)
      clear hB hv hbl htn y0 y1 f1 c0
      generalize (wr.setCell ⟨g, 1, none⟩ (.bool false)) = ws at *
      haveI : Nonempty (Wd (WrB g v false)) := ⟨⟨ws, hS⟩⟩
      have y0 := WrB.cell0 (g := g) (v := v) (b := false)
      have hsz := hbl'.size
      have hlt1 := hv'.lt
      refine wp_region_mix (.seg [0, 1, 2, 3, 4, 5, 6] 7 (.seg [] 8 (.seg [] 9 (.seg [] 10 (.last [] 11))))) (fun w' => ∃ d : Wd (WrB g v false), w' = d.w) (by kernel_rfl) (by kernel_rfl) (fun _ _ d _ _ h => by cases d <;> exact h) (ClsW.mk (D := WrB g v false) hS.drew) ?_
      unfold wpMix; simp only [pick, j1, j2, j3, j4]
      (repeat (show wpQuiet _ _ _ _ (_ :: _) _; go_big_quiet_step (fail))); refine qn ?_
      go_wp2_with fail
      refine (varint_any _ _ (wrap_u64_bd _).1 (wrap_u64_bd _).2).mono ?_
      rintro e w2 ⟨⟨v2, j, rfl, hv2, hj1, hj2⟩, hb2'⟩
      have hb2 : Below ws.heap.size ws w2 := (jb _ ws).drew.tr hb2'
      have hz2 := hb2.size
      have hS2 := hS.ext hb2
      clear hb2'
      go_wp2_with fail
      dsimp only [wpList, SegQ]
      refine ⟨fun w' => ∃ d : Wd (WrB g v false), w' = d.w, ClsW.mk (D := WrB g v false) hS2, fun _ h => h, ?_⟩
      unfold wpMix; simp only [pick, j1, j2, j3, j4]
      (repeat (show wpQuiet _ _ _ _ (_ :: _) _; go_big_quiet_step (fail))); refine qn ?_
      refine wpList_append_bts rfl (.tmp 35) (.tmp 38) rfl base ws.heap.size v m rfl (hv'.ext hb2) v2 j rfl hv2 (by omega) (fun g hg h => by have := (hlt1 g h.symm).2; omega) (by omega) (by omega) ?_
      intro v3 w3 hv3 hb3 hg3 hat3
      obtain ⟨A3, c3, rfl, _⟩ := hv3.form
      have hne3 : some g ≠ v.ownBlock := fun h => Wr.own_ne hS hv' (by decide) h.symm
      have hS3 := hS2.grown hg3 hne3
      go_simp
      dsimp only [wpList, SegQ]
      refine ⟨fun w' => ∃ d : Wd (WrB g v false), w' = d.w, ClsW.mk (D := WrB g v false) hS3, fun _ h => h, ?_⟩
      unfold wpMix; simp only [pick, j1, j2, j3, j4]
      (repeat (show wpQuiet _ _ _ _ (_ :: _) _; go_big_quiet_step (fail))); refine qn ?_
      go_wp2_with fail
      dsimp only [wpList, SegQ]
      refine ⟨fun w' => ∃ d : Wd (WrB g v false), w' = d.w, ClsW.mk (D := WrB g v false) hS3, fun _ h => h, ?_⟩
      unfold wpMix; simp only [pick, j1, j2, j3, j4]
      (repeat (show wpQuiet _ _ _ _ (_ :: _) _; go_big_quiet_step (fail))); refine qn ?_
      go_wp2_with fail
      dsimp only [wpList, SegQ]
      refine ⟨fun w' => ∃ d : Wd (WrB g v false), w' = d.w, ClsW.mk (D := WrB g v false) hS3, fun _ h => h, ?_⟩
      unfold wpMix; simp only [pick, j1, j2, j3, j4]
      (repeat (show wpQuiet _ _ _ _ (_ :: _) _; go_big_quiet_step (fail))); refine qn ?_
      have y1 : w3.cell? ⟨g, 0, none⟩ = some v := hS3.cell 0
      have f1 : w3.frozen? ⟨g, 0, none⟩ = false := hS3.frozen 0
      have hS4 := hS3.set_ 0 (.slice A3 (m + j) c3)
      have hv4 := hv3.setCell (o := 0) (Wr.own_ne hS3 hv3 (by decide)) (.slice A3 (m + j) c3)
      have hbl4 : Below base w (w3.setCell ⟨g, 0, none⟩ (.slice A3 (m + j) c3)) := ((hbl'.trans (hb2.mono (by have := hS.lt; omega))).trans hb3).setCell (p := ⟨g, 0, none⟩) hg _
      have htn4 : Turn g w (w3.setCell ⟨g, 0, none⟩ (.slice A3 (m + j) c3)) := ((htn'.trans (Turn.of_below hb2)).trans (Turn.grown (hv'.ext hb2) hg3)).trans (Turn.set_ 0 _)
      have HWK : Hid (wrap64 ((k : Int) + 1) = ((k + 1 : Nat) : Int)) := jh (by rw [wrap_in _ (by omega)]; rfl)
      have HH := jh (ja hS4 (ja hv4 (ja hbl4 htn4)))
      clear hS4 hv4 hbl4 htn4 hS hv' hbl' htn' hS2 hS3 hv3 hb3 hg3 hat3 hv2 hb2 y0
      go_wp2_with fail
      try dsimp only [wpList, SegQ, Exit.then, Exit.inBlock]
      go_at_K
      go_wp2_with fail
      go_round
      case rel =>
       obtain ⟨hS4, hv4, hbl4, htn4⟩ := HH.out
       refine ⟨k + 1, m + j, false, by omega, by first | rfl | rw [HWK.out], by omega, by omega, ⟨_, hS4, hv4⟩, ?_, (fun h => by cases h), hbl4, htn4⟩
       have h1 := HX.out.1
       have h2 : inW x = true := by unfold inW; rw [decide_eq_true (by have := HX12.out; omega), decide_eq_true (by have := HX12.out; omega)]; rfl
       rw [HTS.out.1, List.all_append]
       simp only [Bool.false_eq, Bool.or_eq_false_iff, Bool.not_eq_eq_eq_not, Bool.not_false] at h1
       rw [h1.1, h1.2]
       simp [h2]
      case measure => first | (simp [intOf]; omega) | (rw [HWK.out]; simp [intOf]; omega)
   ·have hS := hB.set_ 1 (.bool true)
    have hv' := hv.setCell (o := 1) (Wr.own_ne hB hv (by decide)) (.bool true)
    have hbl' : Below base w (wr.setCell ⟨g, 1, none⟩ (.bool true)) := hbl.setCell (p := ⟨g, 1, none⟩) hg _
    have htn' : Turn g w (wr.setCell ⟨g, 1, none⟩ (.bool true)) := htn.trans (Turn.set_ 1 _)
    have HH := jh (ja hS (ja hv' (ja hbl' htn')))
    have hbl0 := jh hbl
    clear hS hv' hbl' htn' hB hv hbl htn
    go_wp2_with fail
    (try simp only [Exit.inBlock, Exit.then]); refine bodyPost_ret (results_none rfl _ _ _) rfl ?_
    obtain ⟨hS, hv', hbl', htn'⟩ := HH.out
    refine ⟨rfl, ⟨m, by omega, by omega, v, ?_, hv'⟩, hbl', htn'⟩
    rw [show (bad || !l.all inW) = true from ?_]
    ·exact hS
    ·have h1 := HX.out.1
     have hk0 : k = 0 := by have := HX.out.2; simpa using this
     subst hk0
     simp at h1
     rw [h1]; rfl
  ·have hkn : k = l.length := by omega
   subst hkn
   go_wp2_with fail
   (try simp only [Exit.inBlock, Exit.then]); refine bodyPost_ret (results_none rfl _ _ _) rfl ?_
   have h1 := HX.out.1
   rw [List.take_length] at h1
   exact ⟨rfl, ⟨m, by omega, by omega, v, by rw [← h1]; exact hB, hv⟩, hbl, htn⟩
theorem Turn.same_blk {g b : Nat} {w : World} {t : TypeId} {cs : List Value} (hb : Blk w b t cs) (ht : t ≠ 5) (hg : b ≠ g) : ∀ W, Turn g w W → Same (· = b) w W := fun W h k hk _ => by
 subst hk
 exact (h.blk hb ht hg).trans hb.symm
theorem wsome_any (g base n n2 : Nat) (bad : Bool) (v2 : Value) (w0 w : World) (hW : Wr w0 base g bad n) (h0 : Below w0.heap.size w0 w) (hv2 : Bts w w0.heap.size v2 n2) (hn : n + n2 ≤ 95000000) (hg : base ≤ g) (hbz : base ≤ w0.heap.size) :
 Calls Tryz.prog 297 #[.pointer (some ⟨g, 0, none⟩), v2] w (WrOut g base (n + n2) (n + n2) (bad || decide (n2 = 0)) w) := by
 obtain ⟨v, hB0, hv0⟩ := hW
 have hB := hB0.ext h0
 have hv := hv0.ext h0
 have hlt0 := hv0.lt
 have hgl := hB.lt
 have hz0 := h0.size
 obtain ⟨A2, c2, rfl, hc1, hc2⟩ := hv2.form
 have hcase : bad = true ∨ (bad = false ∧ ((n2 : Int) == 0) = true ∧ n2 = 0) ∨ (bad = false ∧ ((n2 : Int) == 0) = false ∧ n2 ≠ 0) := by
  cases bad
  ·by_cases h : n2 = 0
   ·exact .inr (.inl ⟨rfl, by rw [h]; rfl, h⟩)
   ·exact .inr (.inr ⟨rfl, by rw [beq_eq_false_iff_ne]; omega, h⟩)
  ·exact .inl rfl
 have hres : ∀ b : Bool, b = (bad || decide (n2 = 0)) → Blk (w.setCell ⟨g, 1, none⟩ (.bool b)) g 326 [v, .bool b] := fun b _ => hB.set_ 1 (.bool b)
 rcases hcase with rfl | ⟨rfl, h2, h3⟩ | ⟨rfl, h2, h3⟩
 ·have hS := hres true (by simp [*])
  have HB : Hid (true = (true || decide (n2 = 0))) := jh (by simp [*])
  clear hres
  try clear h3
  have hv1 := hv.setCell (o := 1) (Wr.own_ne hB hv (by decide)) (.bool true)
  have hv21 := hv2.setCell (o := 1) (Wr.own_ne hB hv2 (by decide)) (.bool true)
  have y0 := hB.cell 1
  have f0 := hB.frozen 1
  have y1 : (w.setCell ⟨g, 1, none⟩ (.bool true)).cell? ⟨g, 0, none⟩ = some v := hS.cell 0
  have hz1 : (w.setCell ⟨g, 1, none⟩ (.bool true)).heap.size = w.heap.size := by simp
  have hl1 : Below base w (w.setCell ⟨g, 1, none⟩ (.bool true)) := (jb _ _).setCell (p := ⟨g, 1, none⟩) hg _
  have ht1 : Turn g w (w.setCell ⟨g, 1, none⟩ (.bool true)) := Turn.set_ 1 _
  have HH := jh (ja hS (ja hl1 ht1))
  clear hS hl1 ht1 hB hv hB0
  go_enter Tryz.func297, Tryz.ntmps297
  go_wp2_with (at_builtin; go_loud (refine wpList_append_bts rfl (.tmp 20) (.tmp 21) rfl base w0.heap.size v n rfl hv1 _ n2 rfl hv21 hbz (fun g hg h => by have := (hlt0 g h.symm).2; omega) (by omega) (by omega) ?_); intro v3 w3 hv3 hb3 hg3 hat3
   <;> (obtain ⟨hS, hl1, ht1⟩ := HH.out; obtain ⟨A3, c3, rfl, _⟩ := hv3.form; have hS3 := hS.grown hg3 (fun h => Wr.own_ne hS hv1 (by decide) h.symm); have y3 : w3.cell? ⟨g, 0, none⟩ = some v := hS3.cell 0; have f3 : w3.frozen? ⟨g, 0, none⟩ = false := hS3.frozen 0))
  (try simp only [Exit.inBlock, Exit.then]); refine bodyPost_end (results_none rfl _ _ _) rfl ?_
  have hS4 := hS3.set_ 0 (.slice A3 (n + n2) c3)
  have hv4 := hv3.setCell (o := 0) (Wr.own_ne hS3 hv3 (by decide)) (.slice A3 (n + n2) c3)
  exact ⟨rfl, ⟨n + n2, by omega, by omega, _, by rw [← HB.out]; exact hS4, hv4⟩, (hl1.trans hb3).setCell (p := ⟨g, 0, none⟩) hg _, (ht1.trans (Turn.grown hv1 hg3)).trans (Turn.set_ 0 _)⟩
 ·have hS := hres true (by simp [*])
  have HB : Hid (true = (false || decide (n2 = 0))) := jh (by simp [*])
  clear hres
  try clear h3
  have hv1 := hv.setCell (o := 1) (Wr.own_ne hB hv (by decide)) (.bool true)
  have hv21 := hv2.setCell (o := 1) (Wr.own_ne hB hv2 (by decide)) (.bool true)
  have y0 := hB.cell 1
  have f0 := hB.frozen 1
  have y1 : (w.setCell ⟨g, 1, none⟩ (.bool true)).cell? ⟨g, 0, none⟩ = some v := hS.cell 0
  have hz1 : (w.setCell ⟨g, 1, none⟩ (.bool true)).heap.size = w.heap.size := by simp
  have hl1 : Below base w (w.setCell ⟨g, 1, none⟩ (.bool true)) := (jb _ _).setCell (p := ⟨g, 1, none⟩) hg _
  have ht1 : Turn g w (w.setCell ⟨g, 1, none⟩ (.bool true)) := Turn.set_ 1 _
  have HH := jh (ja hS (ja hl1 ht1))
  clear hS hl1 ht1 hB hv hB0
  go_enter Tryz.func297, Tryz.ntmps297
  go_wp2_with (at_builtin; go_loud (refine wpList_append_bts rfl (.tmp 20) (.tmp 21) rfl base w0.heap.size v n rfl hv1 _ n2 rfl hv21 hbz (fun g hg h => by have := (hlt0 g h.symm).2; omega) (by omega) (by omega) ?_); intro v3 w3 hv3 hb3 hg3 hat3
   <;> (obtain ⟨hS, hl1, ht1⟩ := HH.out; obtain ⟨A3, c3, rfl, _⟩ := hv3.form; have hS3 := hS.grown hg3 (fun h => Wr.own_ne hS hv1 (by decide) h.symm); have y3 : w3.cell? ⟨g, 0, none⟩ = some v := hS3.cell 0; have f3 : w3.frozen? ⟨g, 0, none⟩ = false := hS3.frozen 0))
  (try simp only [Exit.inBlock, Exit.then]); refine bodyPost_end (results_none rfl _ _ _) rfl ?_
  have hS4 := hS3.set_ 0 (.slice A3 (n + n2) c3)
  have hv4 := hv3.setCell (o := 0) (Wr.own_ne hS3 hv3 (by decide)) (.slice A3 (n + n2) c3)
  exact ⟨rfl, ⟨n + n2, by omega, by omega, _, by rw [← HB.out]; exact hS4, hv4⟩, (hl1.trans hb3).setCell (p := ⟨g, 0, none⟩) hg _, (ht1.trans (Turn.grown hv1 hg3)).trans (Turn.set_ 0 _)⟩
 ·have hS := hres false (by simp [*])
  have HB : Hid (false = (false || decide (n2 = 0))) := jh (by simp [*])
  clear hres
  try clear h3
  have hv1 := hv.setCell (o := 1) (Wr.own_ne hB hv (by decide)) (.bool false)
  have hv21 := hv2.setCell (o := 1) (Wr.own_ne hB hv2 (by decide)) (.bool false)
  have y0 := hB.cell 1
  have f0 := hB.frozen 1
  have y1 : (w.setCell ⟨g, 1, none⟩ (.bool false)).cell? ⟨g, 0, none⟩ = some v := hS.cell 0
  have hz1 : (w.setCell ⟨g, 1, none⟩ (.bool false)).heap.size = w.heap.size := by simp
  have hl1 : Below base w (w.setCell ⟨g, 1, none⟩ (.bool false)) := (jb _ _).setCell (p := ⟨g, 1, none⟩) hg _
  have ht1 : Turn g w (w.setCell ⟨g, 1, none⟩ (.bool false)) := Turn.set_ 1 _
  have HH := jh (ja hS (ja hl1 ht1))
  clear hS hl1 ht1 hB hv hB0
  go_enter Tryz.func297, Tryz.ntmps297
  go_wp2_with (at_builtin; go_loud (refine wpList_append_bts rfl (.tmp 20) (.tmp 21) rfl base w0.heap.size v n rfl hv1 _ n2 rfl hv21 hbz (fun g hg h => by have := (hlt0 g h.symm).2; omega) (by omega) (by omega) ?_); intro v3 w3 hv3 hb3 hg3 hat3
   <;> (obtain ⟨hS, hl1, ht1⟩ := HH.out; obtain ⟨A3, c3, rfl, _⟩ := hv3.form; have hS3 := hS.grown hg3 (fun h => Wr.own_ne hS hv1 (by decide) h.symm); have y3 : w3.cell? ⟨g, 0, none⟩ = some v := hS3.cell 0; have f3 : w3.frozen? ⟨g, 0, none⟩ = false := hS3.frozen 0))
  (try simp only [Exit.inBlock, Exit.then]); refine bodyPost_end (results_none rfl _ _ _) rfl ?_
  have hS4 := hS3.set_ 0 (.slice A3 (n + n2) c3)
  have hv4 := hv3.setCell (o := 0) (Wr.own_ne hS3 hv3 (by decide)) (.slice A3 (n + n2) c3)
  exact ⟨rfl, ⟨n + n2, by omega, by omega, _, by rw [← HB.out]; exact hS4, hv4⟩, (hl1.trans hb3).setCell (p := ⟨g, 0, none⟩) hg _, (ht1.trans (Turn.grown hv1 hg3)).trans (Turn.set_ 0 _)⟩
theorem wmany_any (g base n : Nat) (bad : Bool) (x : Int) (w : World) (hW : Wr w base g bad n) (hx : i64 x) (hn : n ≤ 70000000) (hg : base ≤ g) :
 Calls Tryz.prog 298 #[.pointer (some ⟨g, 0, none⟩), .int .i64 x] w (WrOut g base n (n + 10) ((bad || decide (1000 < x)) || !inW x) w) := by
 obtain ⟨v, hB, hv⟩ := hW
 have hgl := hB.lt
 have hcase : bad = true ∨ (bad = false ∧ 1000 < x) ∨ (bad = false ∧ decide (1000 < x) = false) := by
  cases bad
  ·by_cases h : 1000 < x
   ·exact .inr (.inl ⟨rfl, h⟩)
   ·exact .inr (.inr ⟨rfl, jd h⟩)
  ·exact .inl rfl
 rcases hcase with rfl | ⟨rfl, h2⟩ | ⟨rfl, h2⟩
 ·have hS : Blk (w.setCell ⟨g, 1, none⟩ (.bool true)) g 326 [v, .bool true] := hB.set_ 1 (.bool true)
  have HB : Hid (true = (true || decide (1000 < x))) := jh (by simp [*])
  have hv1 := hv.setCell (o := 1) (Wr.own_ne hB hv (by decide)) (.bool true)
  have y0 := hB.cell 1
  have f0 := hB.frozen 1
  have hz1 : (w.setCell ⟨g, 1, none⟩ (.bool true)).heap.size = w.heap.size := by simp
  have hl1 : Below base w (w.setCell ⟨g, 1, none⟩ (.bool true)) := (jb _ _).setCell (p := ⟨g, 1, none⟩) hg _
  have ht1 : Turn g w (w.setCell ⟨g, 1, none⟩ (.bool true)) := Turn.set_ 1 _
  have hal : Below w.heap.size (w.setCell ⟨g, 1, none⟩ (.bool true)) ((w.setCell ⟨g, 1, none⟩ (.bool true)).alloc (.cells #[.int .i64 x] 3)) := (jb _ _).alloc (by omega) _
  have hnb := Blk.new (w.setCell ⟨g, 1, none⟩ (.bool true)) 3 [.int .i64 x]
  have hW3 : Wr ((w.setCell ⟨g, 1, none⟩ (.bool true)).alloc (.cells #[.int .i64 x] 3)) base g true n := ⟨v, hS.alloc _, hv1.ext ((jb _ _).al _)⟩
  have hrow : IntR.Row ((w.setCell ⟨g, 1, none⟩ (.bool true)).alloc (.cells #[.int .i64 x] 3)) (· = (w.setCell ⟨g, 1, none⟩ (.bool true)).heap.size) (some ⟨(w.setCell ⟨g, 1, none⟩ (.bool true)).heap.size, 0, none⟩) [x] :=
   (Rep.Row.new1 (P := fun _ => False) (R := IntR) (cs := [.int .i64 x]) (a := x) ⟨rfl, hx⟩).mono (fun k hk _ => hk.resolve_left id)
  have C := wnums_any g base n true _ 1 [x] _ _ hW3 hrow (by simp) hn hg (fun W _ ht => Turn.same_blk hnb (by decide) (by omega) W ht)
  have HH := jh (ja (hl1.trans (hal.mono (by omega))) (ht1.trans (Turn.of_below (hal.mono (by omega)))))
  clear hS hl1 ht1 hB hv hal hnb hW3 hrow hv1
  go_enter Tryz.func298, Tryz.ntmps298
  go_wp2_with fail
  rw [hz1] at C
  refine C.mono ?_
  clear C
  rintro e w3 ⟨rfl, ⟨m, hm1, hm2, hW4⟩, hb4, ht4⟩
  go_wp2_with fail
  (try simp only [Exit.inBlock, Exit.then]); refine bodyPost_end (results_none rfl _ _ _) rfl ?_
  refine ⟨rfl, ⟨m, hm1, by simpa using hm2, ?_⟩, HH.out.1.trans hb4, HH.out.2.trans ht4⟩
  rw [← HB.out]
  simpa using hW4
 ·have hS : Blk (w.setCell ⟨g, 1, none⟩ (.bool true)) g 326 [v, .bool true] := hB.set_ 1 (.bool true)
  have HB : Hid (true = (false || decide (1000 < x))) := jh (by simp [*])
  have hv1 := hv.setCell (o := 1) (Wr.own_ne hB hv (by decide)) (.bool true)
  have y0 := hB.cell 1
  have f0 := hB.frozen 1
  have hz1 : (w.setCell ⟨g, 1, none⟩ (.bool true)).heap.size = w.heap.size := by simp
  have hl1 : Below base w (w.setCell ⟨g, 1, none⟩ (.bool true)) := (jb _ _).setCell (p := ⟨g, 1, none⟩) hg _
  have ht1 : Turn g w (w.setCell ⟨g, 1, none⟩ (.bool true)) := Turn.set_ 1 _
  have hal : Below w.heap.size (w.setCell ⟨g, 1, none⟩ (.bool true)) ((w.setCell ⟨g, 1, none⟩ (.bool true)).alloc (.cells #[.int .i64 x] 3)) := (jb _ _).alloc (by omega) _
  have hnb := Blk.new (w.setCell ⟨g, 1, none⟩ (.bool true)) 3 [.int .i64 x]
  have hW3 : Wr ((w.setCell ⟨g, 1, none⟩ (.bool true)).alloc (.cells #[.int .i64 x] 3)) base g true n := ⟨v, hS.alloc _, hv1.ext ((jb _ _).al _)⟩
  have hrow : IntR.Row ((w.setCell ⟨g, 1, none⟩ (.bool true)).alloc (.cells #[.int .i64 x] 3)) (· = (w.setCell ⟨g, 1, none⟩ (.bool true)).heap.size) (some ⟨(w.setCell ⟨g, 1, none⟩ (.bool true)).heap.size, 0, none⟩) [x] :=
   (Rep.Row.new1 (P := fun _ => False) (R := IntR) (cs := [.int .i64 x]) (a := x) ⟨rfl, hx⟩).mono (fun k hk _ => hk.resolve_left id)
  have C := wnums_any g base n true _ 1 [x] _ _ hW3 hrow (by simp) hn hg (fun W _ ht => Turn.same_blk hnb (by decide) (by omega) W ht)
  have HH := jh (ja (hl1.trans (hal.mono (by omega))) (ht1.trans (Turn.of_below (hal.mono (by omega)))))
  clear hS hl1 ht1 hB hv hal hnb hW3 hrow hv1
  go_enter Tryz.func298, Tryz.ntmps298
  go_wp2_with fail
  rw [hz1] at C
  refine C.mono ?_
  clear C
  rintro e w3 ⟨rfl, ⟨m, hm1, hm2, hW4⟩, hb4, ht4⟩
  go_wp2_with fail
  (try simp only [Exit.inBlock, Exit.then]); refine bodyPost_end (results_none rfl _ _ _) rfl ?_
  refine ⟨rfl, ⟨m, hm1, by simpa using hm2, ?_⟩, HH.out.1.trans hb4, HH.out.2.trans ht4⟩
  rw [← HB.out]
  simpa using hW4
 ·have hS : Blk (w.setCell ⟨g, 1, none⟩ (.bool false)) g 326 [v, .bool false] := hB.set_ 1 (.bool false)
  have HB : Hid (false = (false || decide (1000 < x))) := jh (by simp [*])
  have hv1 := hv.setCell (o := 1) (Wr.own_ne hB hv (by decide)) (.bool false)
  have y0 := hB.cell 1
  have f0 := hB.frozen 1
  have hz1 : (w.setCell ⟨g, 1, none⟩ (.bool false)).heap.size = w.heap.size := by simp
  have hl1 : Below base w (w.setCell ⟨g, 1, none⟩ (.bool false)) := (jb _ _).setCell (p := ⟨g, 1, none⟩) hg _
  have ht1 : Turn g w (w.setCell ⟨g, 1, none⟩ (.bool false)) := Turn.set_ 1 _
  have hal : Below w.heap.size (w.setCell ⟨g, 1, none⟩ (.bool false)) ((w.setCell ⟨g, 1, none⟩ (.bool false)).alloc (.cells #[.int .i64 x] 3)) := (jb _ _).alloc (by omega) _
  have hnb := Blk.new (w.setCell ⟨g, 1, none⟩ (.bool false)) 3 [.int .i64 x]
  have hW3 : Wr ((w.setCell ⟨g, 1, none⟩ (.bool false)).alloc (.cells #[.int .i64 x] 3)) base g false n := ⟨v, hS.alloc _, hv1.ext ((jb _ _).al _)⟩
  have hrow : IntR.Row ((w.setCell ⟨g, 1, none⟩ (.bool false)).alloc (.cells #[.int .i64 x] 3)) (· = (w.setCell ⟨g, 1, none⟩ (.bool false)).heap.size) (some ⟨(w.setCell ⟨g, 1, none⟩ (.bool false)).heap.size, 0, none⟩) [x] :=
   (Rep.Row.new1 (P := fun _ => False) (R := IntR) (cs := [.int .i64 x]) (a := x) ⟨rfl, hx⟩).mono (fun k hk _ => hk.resolve_left id)
  have C := wnums_any g base n false _ 1 [x] _ _ hW3 hrow (by simp) hn hg (fun W _ ht => Turn.same_blk hnb (by decide) (by omega) W ht)
  have HH := jh (ja (hl1.trans (hal.mono (by omega))) (ht1.trans (Turn.of_below (hal.mono (by omega)))))
  clear hS hl1 ht1 hB hv hal hnb hW3 hrow hv1
  go_enter Tryz.func298, Tryz.ntmps298
  go_wp2_with fail
  rw [hz1] at C
  refine C.mono ?_
  clear C
  rintro e w3 ⟨rfl, ⟨m, hm1, hm2, hW4⟩, hb4, ht4⟩
  go_wp2_with fail
  (try simp only [Exit.inBlock, Exit.then]); refine bodyPost_end (results_none rfl _ _ _) rfl ?_
  refine ⟨rfl, ⟨m, hm1, by simpa using hm2, ?_⟩, HH.out.1.trans hb4, HH.out.2.trans ht4⟩
  rw [← HB.out]
  simpa using hW4
end Go.Proofs.YtcmjgghkmdbphaaGreatDoor
