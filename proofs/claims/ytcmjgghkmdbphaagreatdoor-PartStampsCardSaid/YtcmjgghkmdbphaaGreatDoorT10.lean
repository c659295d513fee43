/- table.alike. A table's map with one stream turned. table.Append: what may not be put behind. -/
import Derived.Test.YtcmjgghkmdbphaaGreatDoorT09
import Derived.Laws.StructEq
import Derived.Shelf.SlMaps.Clone
import Derived.Deep.DeepCutAuto
set_option maxRecDepth 20000
set_option maxHeartbeats 25600000
namespace Go.Proofs.YtcmjgghkmdbphaaGreatDoor
open Go.RowKit
def likeB (e0 x : Event) : Bool := decide (x.stream = e0.stream) && (decide (x.stamp = e0.stamp) && eventB x)
theorem str_ne {a b : Str} (h : a ≠ b) : (a.toList == b.toList) = false := by
 rw [beq_eq_false_iff_ne]
 intro e
 rw [ByteArray.toList_eq, ByteArray.toList_eq] at e
 exact h (by cases a; cases b; simpa using e)
theorem alike_any (A : Option Addr) (c : Nat) (l : List Event) (P : Nat → Prop) (w : World) (hr : EventR.Row w P A l) (hl : l.length ≤ 100000000) (hT : Tabs w) (h2 : 2 ≤ w.heap.size) :
 Calls Tryz.prog 299 #[.slice A l.length c] w fun e w' => e = .returned (.bool (alikeB l)) ∧ Below w.heap.size w w' := by
 have HR := jh (hr.mono (Q := fun g => g < w.heap.size) fun g _ h => h); clear hr
 have HL := jh hl; clear hl
 have CE := jh (fun e W => encodeE_any e W)
 unfold Event.val at CE
 have HAL := jh (show ∀ e0, l[0]? = some e0 → alikeB l = l.all (likeB e0) from fun e0 h => by
  cases l with
  | nil => cases h
  | cons x r => simp at h; subst h; rfl)
 go_enter Tryz.func299, Tryz.ntmps299
 go_wp2_with fail
 go_loopw [7] (fun i wr => ∃ k : Nat, k ≤ l.length ∧ i = .int .i64 k ∧ (∀ e0, l[0]? = some e0 → (l.take k).all (likeB e0) = true) ∧ Below w.heap.size w wr) (fun i _ => l.length - (intOf i).toNat)
 case atStart => exact ⟨0, Nat.zero_le _, rfl, fun _ _ => rfl, jb _ _⟩
 case round =>
  obtain ⟨k, hk, rfl, hall, hbl⟩ := hrel
  have HA := jh hall; clear hall
  by_cases hlt : k < l.length
  ·have hlk := jg hlt
   have hl0 : l[0]? = some (l[0]'(by omega)) := jg (by omega)
   generalize l[k] = x at hlk
   generalize l[0]'(by omega) = e0 at hl0
   obtain ⟨b, o, cs, rfl, hP, hbw, hrep, hcs⟩ := (HR.out.ext hbl).at_ hlk
   obtain ⟨b', o', cs', he, _, _, hrep', hcs'⟩ := (HR.out.ext hbl).at_ hl0
   obtain ⟨rfl, rfl⟩ : b = b' ∧ o = o' := by simpa using he
   obtain ⟨rfl, hf⟩ := event_rep.1 hrep
   obtain ⟨rfl, hf'⟩ := event_rep.1 hrep'
   unfold Event.cells at hcs hcs'
   have c0 := hcs 0 _ rfl; have c1 := hcs 1 _ rfl; have c2 := hcs 2 _ rfl; have c3 := hcs 3 _ rfl; have c4 := hcs 4 _ rfl; have c5 := hcs 5 _ rfl; have c6 := hcs 6 _ rfl; simp only [EventR_size, Nat.add_zero] at c0 c1 c2 c3 c4 c5 c6
   have z0 := hcs' 0 _ rfl
   have z3 := hcs' 3 _ rfl
   have z4 := hcs' 4 _ rfl
   have z5 := hcs' 5 _ rfl
   simp only [EventR_size, Nat.zero_mul, Nat.add_zero] at z0 z3 z4 z5
   have HLK := jh (ja hlk (ja hl0 hf))
   clear hcs hcs' hrep hrep' hlk hl0 he hf hf'
   have hlt' : (k : Int) < l.length := by omega
   have hkm : (k : Int) ≤ 100000000 := by have := HL.out; omega
   have hsz : (wr.alloc (.cells #[.string x.stream, .int .i64 x.version, .string x.data, .int .i64 x.stamp.wall, .int .i64 x.stamp.logic, .int .i64 x.stamp.node, .int .i64 x.index] 202)).heap.size = wr.heap.size + 1 := by simp
   have BX := Blk.new wr 202 [.string x.stream, .int .i64 x.version, .string x.data, .int .i64 x.stamp.wall, .int .i64 x.stamp.logic, .int .i64 x.stamp.node, .int .i64 x.index]
   have hbx := hbl.al (.cells #[.string x.stream, .int .i64 x.version, .string x.data, .int .i64 x.stamp.wall, .int .i64 x.stamp.logic, .int .i64 x.stamp.node, .int .i64 x.index] 202)
   have zz := fun (i : Nat) (v : Value) (h : wr.cell? ⟨b, i, none⟩ = some v) => (Below.cell ((jb _ wr).al (.cells #[.string x.stream, .int .i64 x.version, .string x.data, .int .i64 x.stamp.wall, .int .i64 x.stamp.logic, .int .i64 x.stamp.node, .int .i64 x.index] 202)) (p := ⟨b, i, none⟩) hbw).trans h
   have z0 := zz _ _ z0
   have z3 := zz _ _ z3
   have z4 := zz _ _ z4
   have z5 := zz _ _ z5
   clear zz
   go_upto_region 4 with fail
   refine forget (M := fun W => Code.wp _ _ _ _ W) (fun W => Below w.heap.size w W ∧ Blk W wr.heap.size 202 [.string x.stream, .int .i64 x.version, .string x.data, .int .i64 x.stamp.wall, .int .i64 x.stamp.logic, .int .i64 x.stamp.node, .int .i64 x.index] ∧ W.heap.size = wr.heap.size + 1 ∧
    W.cell? ⟨b, o, none⟩ = some (.string e0.stream) ∧ W.cell? ⟨b, o + 3, none⟩ = some (.int .i64 e0.stamp.wall) ∧ W.cell? ⟨b, o + 4, none⟩ = some (.int .i64 e0.stamp.logic) ∧ W.cell? ⟨b, o + 5, none⟩ = some (.int .i64 e0.stamp.node)) ⟨hbx, BX, hsz, z0, z3, z4, z5⟩ ?_
   clear hbx BX hsz z0 z3 z4 z5 c0 c1 c2 c3 c4 c5 c6
   rintro wx ⟨hbx, BX, hsz, z0, z3, z4, z5⟩
   have x0 := On.cell (BX.cell 0)
   have x1 := On.cell (BX.cell 1)
   have x2 := On.cell (BX.cell 2)
   have x3 := On.cell (BX.cell 3)
   have x4 := On.cell (BX.cell 4)
   have x5 := On.cell (BX.cell 5)
   have x6 := On.cell (BX.cell 6)
   have y0 := On.cell z0
   have y3 := On.cell z3
   have y4 := On.cell z4
   have y5 := On.cell z5
   have hbad : likeB e0 x = false → false = alikeB l := fun h => by
    rw [HAL.out e0 HLK.out.2.1]
    exact (not_all HLK.out.1 h).symm
   have HBAD := jh hbad
   clear hbad z0 z3 z4 z5
   have hcase : x.stream ≠ e0.stream ∨ (x.stream = e0.stream ∧ x.stamp.wall ≠ e0.stamp.wall) ∨ (x.stream = e0.stream ∧ x.stamp.wall = e0.stamp.wall ∧ x.stamp.logic ≠ e0.stamp.logic) ∨ (x.stream = e0.stream ∧ x.stamp.wall = e0.stamp.wall ∧ x.stamp.logic = e0.stamp.logic ∧ x.stamp.node ≠ e0.stamp.node) ∨
    (x.stream = e0.stream ∧ x.stamp.wall = e0.stamp.wall ∧ x.stamp.logic = e0.stamp.logic ∧ x.stamp.node = e0.stamp.node) := by
    by_cases x.stream = e0.stream <;> by_cases x.stamp.wall = e0.stamp.wall <;> by_cases x.stamp.logic = e0.stamp.logic <;> by_cases x.stamp.node = e0.stamp.node <;> simp [*]
   rcases hcase with g | g | g | g | g
   ·have G := jh g
    (have g1 := str_ne g)
    clear g
    refine wp_region_mix (.seg [0, 1, 2, 3, 4, 5, 6, 7, 8, 9, 10, 11, 12, 13, 14, 15, 16, 17] 18 (.leaf [19, 20, 21])) (fun w' => ∃ d : Wd (On wx), w' = d.w) (by kernel_rfl) (by kernel_rfl) (fun _ _ d _ _ h => by cases d <;> exact h) (ClsW.mk (jb _ _).drew) ?_
    unfold wpMix; simp only [pick, j1, j2, j3, j4]
    (repeat (show wpQuiet _ _ _ _ (_ :: _) _; go_big_quiet_step (fail))); refine qn ?_
    go_wp2_with fail
    dsimp only [wpList, SegQ]
    refine ⟨fun w' => ∃ d : Wd (On wx), w' = d.w, ClsW.mk (jb _ _).drew, fun _ h => h, ?_⟩
    unfold wpMix; simp only [pick, j1, j2, j3, j4]
    (repeat (show wpQuiet _ _ _ _ (_ :: _) _; go_big_quiet_step (fail))); refine qn ?_
    go_wp2_with fail
    go_ret
    exact ⟨ret_bool (HBAD.out (by (simp [likeB, G.out]))), hbx.drew⟩
   ·have G := jh g
    (rw [g.1] at x0) ; (have g1 : (x.stamp.wall == e0.stamp.wall) = false := by rw [beq_eq_false_iff_ne] ; exact g.2)
    clear g
    refine wp_region_mix (.seg [0, 1, 2, 3, 4, 5, 6, 7, 8, 9, 10, 11, 12, 13, 14, 15, 16, 17] 18 (.leaf [19, 20, 21])) (fun w' => ∃ d : Wd (On wx), w' = d.w) (by kernel_rfl) (by kernel_rfl) (fun _ _ d _ _ h => by cases d <;> exact h) (ClsW.mk (jb _ _).drew) ?_
    unfold wpMix; simp only [pick, j1, j2, j3, j4]
    (repeat (show wpQuiet _ _ _ _ (_ :: _) _; go_big_quiet_step (fail))); refine qn ?_
    go_wp2_with fail
    dsimp only [wpList, SegQ]
    refine ⟨fun w' => ∃ d : Wd (On wx), w' = d.w, ClsW.mk (jb _ _).drew, fun _ h => h, ?_⟩
    unfold wpMix; simp only [pick, j1, j2, j3, j4]
    (repeat (show wpQuiet _ _ _ _ (_ :: _) _; go_big_quiet_step (fail))); refine qn ?_
    go_wp2_with fail
    go_ret
    exact ⟨ret_bool (HBAD.out (by (have h : x.stamp ≠ e0.stamp := fun e => G.out.2 (by rw [e])) ; (simp [likeB, h]))), hbx.drew⟩
   ·have G := jh g
    (rw [g.1] at x0) ; (rw [g.2.1] at x3) ; (have g1 : (x.stamp.logic == e0.stamp.logic) = false := by rw [beq_eq_false_iff_ne] ; exact g.2.2)
    clear g
    refine wp_region_mix (.seg [0, 1, 2, 3, 4, 5, 6, 7, 8, 9, 10, 11, 12, 13, 14, 15, 16, 17] 18 (.leaf [19, 20, 21])) (fun w' => ∃ d : Wd (On wx), w' = d.w) (by kernel_rfl) (by kernel_rfl) (fun _ _ d _ _ h => by cases d <;> exact h) (ClsW.mk (jb _ _).drew) ?_
    unfold wpMix; simp only [pick, j1, j2, j3, j4]
    (repeat (show wpQuiet _ _ _ _ (_ :: _) _; go_big_quiet_step (fail))); refine qn ?_
    go_wp2_with fail
    dsimp only [wpList, SegQ]
    refine ⟨fun w' => ∃ d : Wd (On wx), w' = d.w, ClsW.mk (jb _ _).drew, fun _ h => h, ?_⟩
    unfold wpMix; simp only [pick, j1, j2, j3, j4]
    (repeat (show wpQuiet _ _ _ _ (_ :: _) _; go_big_quiet_step (fail))); refine qn ?_
    go_wp2_with fail
    go_ret
    exact ⟨ret_bool (HBAD.out (by (have h : x.stamp ≠ e0.stamp := fun e => G.out.2.2 (by rw [e])) ; (simp [likeB, h]))), hbx.drew⟩
   ·have G := jh g
    (rw [g.1] at x0) ; (rw [g.2.1] at x3) ; (rw [g.2.2.1] at x4) ; (have g1 : (x.stamp.node == e0.stamp.node) = false := by rw [beq_eq_false_iff_ne] ; exact g.2.2.2)
    clear g
    refine wp_region_mix (.seg [0, 1, 2, 3, 4, 5, 6, 7, 8, 9, 10, 11, 12, 13, 14, 15, 16, 17] 18 (.leaf [19, 20, 21])) (fun w' => ∃ d : Wd (On wx), w' = d.w) (by kernel_rfl) (by kernel_rfl) (fun _ _ d _ _ h => by cases d <;> exact h) (ClsW.mk (jb _ _).drew) ?_
    unfold wpMix; simp only [pick, j1, j2, j3, j4]
    (repeat (show wpQuiet _ _ _ _ (_ :: _) _; go_big_quiet_step (fail))); refine qn ?_
    go_wp2_with fail
    dsimp only [wpList, SegQ]
    refine ⟨fun w' => ∃ d : Wd (On wx), w' = d.w, ClsW.mk (jb _ _).drew, fun _ h => h, ?_⟩
    unfold wpMix; simp only [pick, j1, j2, j3, j4]
    (repeat (show wpQuiet _ _ _ _ (_ :: _) _; go_big_quiet_step (fail))); refine qn ?_
    go_wp2_with fail
    go_ret
    exact ⟨ret_bool (HBAD.out (by (have h : x.stamp ≠ e0.stamp := fun e => G.out.2.2.2 (by rw [e])) ; (simp [likeB, h]))), hbx.drew⟩
   ·have G := jh g
    rw [g.1] at x0
    rw [g.2.1] at x3
    rw [g.2.2.1] at x4
    rw [g.2.2.2] at x5
    clear g
    refine wp_region_mix (.seg [0, 1, 2, 3, 4, 5, 6, 7, 8, 9, 10, 11, 12, 13, 14, 15, 16, 17] 18 (.leaf [19, 20, 21])) (fun w' => ∃ d : Wd (On wx), w' = d.w) (by kernel_rfl) (by kernel_rfl) (fun _ _ d _ _ h => by cases d <;> exact h) (ClsW.mk (jb _ _).drew) ?_
    unfold wpMix; simp only [pick, j1, j2, j3, j4]
    (repeat (show wpQuiet _ _ _ _ (_ :: _) _; go_big_quiet_step (fail))); refine qn ?_
    go_wp2_with fail
    have HXE := jh (show (⟨e0.stream, x.version, x.data, ⟨e0.stamp.wall, e0.stamp.logic, e0.stamp.node⟩, x.index⟩ : Event) = x from by
     obtain ⟨x1, x2, x3, ⟨x4, x5, x6⟩, x7⟩ := x
     have := G.out
     simp only at this
     obtain ⟨h1, h2, h3, h4⟩ := this
     rw [h1, h2, h3, h4])
    have hzx := hbx.size
    have C := CE.out ⟨e0.stream, x.version, x.data, ⟨e0.stamp.wall, e0.stamp.logic, e0.stamp.node⟩, x.index⟩ wx.drew (by rw [HXE.out]; exact HLK.out.2.2) (hT.below hbx.drew) (by show 2 ≤ wx.heap.size; omega)
    rw [show eventB (⟨e0.stream, x.version, x.data, ⟨e0.stamp.wall, e0.stamp.logic, e0.stamp.node⟩, x.index⟩ : Event) = eventB x from by rw [HXE.out]] at C
    clear x0 x1 x2 x3 x4 x5 x6 y0 y3 y4 y5
    cases hq : eventB x
    ·have HQ := jh hq
     rw [hq] at C
     clear hq
     refine C.mono ?_
     clear C
     rintro en w2 ⟨hg2, hb2⟩
     obtain rfl := hg2.out0
     go_wp2_with fail
     dsimp only [wpList, SegQ]
     refine ⟨fun w' => ∃ d : Wd (On wx), w' = d.w, ClsW.mk ((jb wx.heap.size wx).drew.trans hb2), fun _ h => h, ?_⟩
     unfold wpMix; simp only [pick, j1, j2, j3, j4]
     (repeat (show wpQuiet _ _ _ _ (_ :: _) _; go_big_quiet_step (fail))); refine qn ?_
     go_wp2_with fail
     go_ret
     exact ⟨ret_bool (HBAD.out (by simp [likeB, HQ.out])), hbx.drew.trans (hb2.mono hzx)⟩
    ·have HQ := jh hq
     rw [hq] at C
     clear hq
     refine C.mono ?_
     clear C
     rintro en w2 ⟨hg2, hb2⟩
     obtain ⟨v2, n2, rfl, hv2, hn2, _⟩ := hg2.out1
     obtain ⟨A2, c2, rfl, _⟩ := hv2.form
     have hn0 : ((n2 : Int) == 0) = false := by rw [beq_eq_false_iff_ne]; omega
     go_wp2_with fail
     dsimp only [wpList, SegQ]
     refine ⟨fun w' => ∃ d : Wd (On wx), w' = d.w, ClsW.mk ((jb wx.heap.size wx).drew.trans hb2), fun _ h => h, ?_⟩
     unfold wpMix; simp only [pick, j1, j2, j3, j4]
     (repeat (show wpQuiet _ _ _ _ (_ :: _) _; go_big_quiet_step (fail))); refine qn ?_
     go_wp2_with fail
     go_round
     case rel =>
      refine ⟨k + 1, by omega, by go_num, fun e1 h1 => ?_, hbx.drew.trans (hb2.mono hzx)⟩
      have h2 := HLK.out.2.1
      rw [h2] at h1
      obtain rfl : e0 = e1 := by injection h1
      refine all_take_snoc (HA.out e0 h2) HLK.out.1 ?_
      have hst : x.stamp = e0.stamp := by
       have h := congrArg Event.stamp HXE.out
       exact h.symm
      simp [likeB, HQ.out, G.out.1, hst]
     case measure => simp [intOf]; omega
  ·have hkn : k = l.length := by omega
   subst hkn
   have ht : alikeB l = true := by
    cases hl0 : l[0]? with
    | none =>
      have : l = [] := by simpa using hl0
      rw [this]; rfl
    | some e0 =>
      rw [HAL.out e0 hl0]
      have := HA.out e0 hl0
      rwa [List.take_length] at this
   have HTT := jh ht
   clear ht
   go_wp2_with fail
   go_ret
   exact ⟨by rw [HTT.out]; rfl, hbl⟩
end Go.Proofs.YtcmjgghkmdbphaaGreatDoor
namespace Go.Proofs.YtcmjgghkmdbphaaGreatDoor
open Go.RowKit
section
variable {κ β : Type} [DecidableEq κ]
theorem putA_same {k : κ} {v : β} {l : List (κ × β)} (h : getA k l = some v) : putA k v l = l := by
 induction l with
 | nil => cases h
 | cons p l ih =>
   obtain ⟨x, u⟩ := p
   simp only [getA] at h
   simp only [putA]
   split at h
   ·rename_i e; cases h; rw [if_pos e]
   ·rename_i e; rw [if_neg e, ih h]
theorem putA_put (k : κ) (v u : β) (l : List (κ × β)) : putA k v (putA k u l) = putA k v l := by
 induction l with
 | nil => simp [putA]
 | cons p l ih =>
   obtain ⟨x, t⟩ := p
   simp only [putA]
   by_cases e : k = x
   ·rw [if_pos e, if_pos e]; simp [putA, e]
   ·rw [if_neg e, if_neg e]; simp only [putA]; rw [if_neg e, ih]
theorem putA_mem' {k : κ} {v : β} {l : List (κ × β)} (hn : (l.map (·.1)).Nodup) {p : κ × β} (h : p ∈ putA k v l) : p = (k, v) ∨ (p ∈ l ∧ p.1 ≠ k) := by
 induction l with
 | nil => simp [putA] at h; exact .inl h
 | cons q l ih =>
   simp only [List.map_cons, List.nodup_cons] at hn
   obtain ⟨x, t⟩ := q
   simp only [putA] at h
   split at h
   ·rename_i e
    rcases List.mem_cons.1 h with h | h
    ·left; rw [h, e]
    ·refine .inr ⟨List.mem_cons_of_mem _ h, fun e' => hn.1 ?_⟩
     simp only
     rw [← e, ← e']; exact List.mem_map.2 ⟨p, h, rfl⟩
   ·rename_i e
    rcases List.mem_cons.1 h with h | h
    ·subst h; exact .inr ⟨by simp, fun e' => e e'.symm⟩
    ·rcases ih hn.2 h with h | h
     ·exact .inl h
     ·exact .inr ⟨List.mem_cons_of_mem _ h.1, h.2⟩
theorem putA_pair {R : κ × β → κ × β → Prop} {k : κ} {v : β} {l : List (κ × β)} (hn : (l.map (·.1)).Nodup) (h : l.Pairwise R) (hk : ∀ q ∈ l, q.1 ≠ k → R q (k, v) ∧ R (k, v) q) : (putA k v l).Pairwise R := by
 induction l with
 | nil => simp [putA]
 | cons q l ih =>
   have hn' := hn
   simp only [List.map_cons, List.nodup_cons] at hn
   rw [List.pairwise_cons] at h
   obtain ⟨x, t⟩ := q
   simp only [putA]
   split
   ·rename_i e
    rw [List.pairwise_cons]
    refine ⟨fun p hp => ?_, h.2⟩
    have : p.1 ≠ k := fun e' => hn.1 (by simp only; rw [← e, ← e']; exact List.mem_map.2 ⟨p, hp, rfl⟩)
    rw [← e]
    exact (hk p (List.mem_cons_of_mem _ hp) this).2
   ·rename_i e
    rw [List.pairwise_cons]
    refine ⟨fun p hp => ?_, ih hn.2 h.2 fun q hq => hk q (List.mem_cons_of_mem _ hq)⟩
    rcases putA_mem' hn.2 hp with rfl | hp
    ·exact (hk (x, t) (by simp) (fun e' => e e'.symm)).1
    ·exact h.1 p hp.1
end
theorem StrsAt.upd {w w' : World} {P P' : Nat → Prop} {m : Nat} {TA : TabA} {n : Str} {ts : TS} {s : SB} (h : StrsAt w P m TA) (hM : MapAt strE w' m (TabA.ptrs (putA n (ts, s) TA))) (ht : TSAt w' s ts) (hm : s.km ≠ m) (hi : s.In P') (hn : sfit n) (hP : ∀ g, P g → P' g)
 (ho : ∀ q ∈ TA, q.1 ≠ n → TSAt w' q.2.2 q.2.1 ∧ q.2.2.Apart s) : StrsAt w' P' m (putA n (ts, s) TA) := by
 refine ⟨hM, putA_nodup h.nd, fun p hp => ?_, putA_pair h.nd h.apart fun q hq hne => ⟨(ho q hq hne).2, (ho q hq hne).2.symm⟩⟩
 rcases putA_mem' h.nd hp with rfl | ⟨hp, hne⟩
 ·exact ⟨ht, hm, hi, hn⟩
 ·exact ⟨(ho p hp hne).1, (h.each p hp).2.1, (h.each p hp).2.2.1.mono hP, (h.each p hp).2.2.2⟩
def SB.Foot (s : SB) (B : Nat) (g : Nat) : Prop := g = s.b ∨ g = s.km ∨ s.ev.ownBlock = some g ∨ B ≤ g
theorem TSAt.not_map {w : World} {s : SB} {ts : TS} (h : TSAt w s ts) {m : Nat} {ps : List (Str × Value)} (hM : MapAt strE w m ps) : m ≠ s.b ∧ s.ev.ownBlock ≠ some m := by
 refine ⟨hM.not_cells h.blk, fun e => ?_⟩
 obtain ⟨xs, h1, _⟩ := h.ev
 rcases h1.2 with ⟨hv, _⟩ | ⟨g, cap, cur, hv, _, hg, _⟩
 ·rw [hv] at e; cases e
 ·rw [hv] at e
  have : g = m := by simpa [Value.ownBlock] using e
  subst this
  obtain ⟨es, clk, hh, _⟩ := hM
  rw [hh] at hg; cases hg
theorem StrsAt.other {w w' : World} {P : Nat → Prop} {m : Nat} {TA : TabA} {n : Str} {ts : TS} {s : SB} (h : StrsAt w P m TA) (hg : getA n TA = some (ts, s)) (hb : Only (s.Foot w.heap.size) w w') :
 ∀ q ∈ TA, q.1 ≠ n → TSAt w' q.2.2 q.2.1 ∧ q.2.2.Apart s := fun q hq hne => by
 have hm := getA_mem hg
 have hs := (h.each _ hm).1
 have hqs := (h.each _ hq).1
 have hap : q.2.2.Apart s := by
  obtain ⟨i, hi, rfl⟩ := List.getElem_of_mem hq
  obtain ⟨j, hj, e⟩ := List.getElem_of_mem hm
  have hp := List.pairwise_iff_getElem.1 h.apart
  rcases Nat.lt_trichotomy i j with h1 | h1 | h1
  ·have := hp i j hi hj h1; rw [e] at this; exact this
  ·subst h1; rw [e] at hne; exact absurd rfl hne
  ·have := hp j i hj hi h1; rw [e] at this; exact this.symm
 refine ⟨hqs.same (P := fun g => ¬ s.Foot w.heap.size g) ⟨?_, ?_, ?_⟩ (Same.of_only hb fun _ h => h), hap⟩
 ·rintro (e | e | e | e)
  ·exact hap.b e
  ·exact (hqs.not_map hs.km).1 e.symm
  ·obtain ⟨xs, h1, _⟩ := hs.ev
   have := own_blk_ne h1 hqs.blk (by decide)
   exact this e
  ·have := hqs.blk.lt; omega
 ·rintro (e | e | e | e)
  ·exact (hs.not_map hqs.km).1 e
  ·exact hap.km e
  ·exact (hs.not_map hqs.km).2 e
  ·have := hqs.km.lt; omega
 ·rintro g hg (e | e | e | e)
  ·obtain ⟨xs, h1, _⟩ := hqs.ev
   exact own_blk_ne h1 hs.blk (by decide) (e ▸ hg)
  ·exact (hqs.not_map hs.km).2 (e ▸ hg)
  ·exact hap.ev g hg e
  ·have := (hqs.ev.lt g hg).2; omega
theorem StrsAt.foot_m {w : World} {P : Nat → Prop} {m : Nat} {TA : TabA} {n : Str} {ts : TS} {s : SB} (h : StrsAt w P m TA) (hg : getA n TA = some (ts, s)) : ¬ s.Foot w.heap.size m := by
 have hs := h.each _ (getA_mem hg)
 rintro (e | e | e | e)
 ·exact (hs.1.not_map h.map).1 e
 ·exact hs.2.1 e.symm
 ·exact (hs.1.not_map h.map).2 e
 ·have := h.map.lt; omega
theorem StrsAt.turn {w w' : World} {P P' : Nat → Prop} {m : Nat} {TA : TabA} {n : Str} {ts ts' : TS} {s s' : SB} (h : StrsAt w P m TA) (hg : getA n TA = some (ts, s)) (hb : Only (s.Foot w.heap.size) w w') (ht : TSAt w' s' ts') (e1 : s'.b = s.b) (e2 : s'.km = s.km)
 (e3 : ∀ g, s'.ev.ownBlock = some g → s.ev.ownBlock = some g ∨ w.heap.size ≤ g) (hP : ∀ g, P g → P' g) (hN : ∀ g, w.heap.size ≤ g → P' g) : StrsAt w' P' m (putA n (ts', s') TA) := by
 have hs := h.each _ (getA_mem hg)
 refine h.upd ?_ ht (by rw [e2]; exact hs.2.1) ⟨by rw [e1]; exact hP _ hs.2.2.1.b, by rw [e2]; exact hP _ hs.2.2.1.km, fun g hg' => ?_⟩ hs.2.2.2 hP fun q hq hne => ?_
 ·have : TabA.ptrs (putA n (ts', s') TA) = TA.ptrs := by
   unfold TabA.ptrs
   rw [← putA_map (fun q : TS × SB => ptrV q.2.b)]
   refine putA_same ?_
   have := ptrs_get TA n
   unfold TabA.ptrs at this
   rw [this, hg]; simp [e1]
  rw [this]
  exact h.map.only hb (h.foot_m hg)
 ·rcases e3 g hg' with h1 | h1
  ·exact hP _ (hs.2.2.1.ev g h1)
  ·exact hN _ h1
 ·obtain ⟨k1, k2⟩ := h.other hg hb q hq hne
  refine ⟨k1, ⟨by rw [e1]; exact k2.b, by rw [e2]; exact k2.km, fun g hg' hn => ?_⟩⟩
  rcases e3 g hn with h1 | h1
  ·exact k2.ev g hg' h1
  ·have := ((h.each q hq).1.ev.lt g hg').2; omega
theorem StrsAt.more {w w' : World} {P P' : Nat → Prop} {m : Nat} {TA : TabA} {n : Str} {ts : TS} {s : SB} (h : StrsAt w P m TA) (hb : Only (fun g => g = m ∨ w.heap.size ≤ g) w w') (hM : MapAt strE w' m (putA n (ptrV s.b) TA.ptrs)) (ht : TSAt w' s ts) (hs : w.heap.size ≤ s.b ∧ w.heap.size ≤ s.km ∧ ∀ g, s.ev.ownBlock = some g → w.heap.size ≤ g)
 (hn : sfit n) (hP : ∀ g, P g → P' g) (hN : ∀ g, w.heap.size ≤ g → P' g) : StrsAt w' P' m (putA n (ts, s) TA) := by
 have hml := h.map.lt
 refine h.upd ?_ ht (by omega) ⟨hN _ hs.1, hN _ hs.2.1, fun g hg => hN _ (hs.2.2 g hg)⟩ hn hP fun q hq hne => ?_
 ·have : TabA.ptrs (putA n (ts, s) TA) = putA n (ptrV s.b) TA.ptrs := by
   unfold TabA.ptrs
   rw [← putA_map (fun q : TS × SB => ptrV q.2.b)]
  rw [this]; exact hM
 ·have hq' := h.each q hq
  have hl := hq'.1.inlt
  refine ⟨hq'.1.same (P := fun g => g ≠ m ∧ g < w.heap.size) ⟨⟨fun e => (hq'.1.not_map h.map).1 e.symm, hl.b⟩, ⟨hq'.2.1, hl.km⟩, fun g hg => ⟨fun e => (hq'.1.not_map h.map).2 (e ▸ hg), hl.ev g hg⟩⟩ (Same.of_only hb fun g hg h => by rcases h with h | h <;> omega), ⟨?_, ?_, ?_⟩⟩
  ·have := hl.b; omega
  ·have := hl.km; omega
  ·intro g hg hn
   have := hl.ev g hg; have := hs.2.2 g hn; omega
end Go.Proofs.YtcmjgghkmdbphaaGreatDoor
namespace Go.Proofs.YtcmjgghkmdbphaaGreatDoor
open Go.RowKit
def AppendOut (w : World) (P : Nat → Prop) (tb : Nat) (T : Tab) (k : Str) (l : List Event) (e : Ending) (w' : World) : Prop :=
 e = .returned (.int .i64 (appendT k l T).2) ∧ TabAt w' (fun g => P g ∨ w.heap.size ≤ g) tb (appendT k l T).1 ∧ Only P w w'
theorem appendT_1 {k : Str} {l : List Event} {T : Tab} (h : l = [] ∨ alikeB l = false ∨ keyB k = false) : appendT k l T = (T, 1) := by
 cases l with
 | nil => rfl
 | cons e l =>
   unfold appendT
   rcases h with h | h | h
   ·cases h
   ·simp only; rw [if_pos (.inl h)]
   ·simp only; rw [if_pos (.inr h)]
theorem appendT_5 {k : Str} {l : List Event} {e0 : Event} {T : Tab} (h0 : l[0]? = some e0) (h1 : alikeB l = true) (h2 : keyB k = true) (h3 : goesB l (versionT T e0.stream) = false) : appendT k l T = (T, 5) := by
 cases l with
 | nil => cases h0
 | cons e l =>
   simp at h0; subst h0
   unfold appendT
   simp only
   rw [if_neg (by simp [h1, h2]), if_pos h3]
theorem appendT_0 {k : Str} {l : List Event} {e0 : Event} {T : Tab} (h0 : l[0]? = some e0) (h1 : alikeB l = true) (h2 : keyB k = true) (h3 : goesB l (versionT T e0.stream) = true) :
 appendT k l T = (putA e0.stream ⟨((getA e0.stream T).getD ⟨[], []⟩).events ++ l, addKey k e0 ((getA e0.stream T).getD ⟨[], []⟩).keys⟩ T, 0) := by
 cases l with
 | nil => cases h0
 | cons e l =>
   simp at h0; subst h0
   unfold appendT
   simp only
   rw [if_neg (by simp [h1, h2]), if_neg (by simp [h3])]
theorem AppendOut.same {w w' : World} {P : Nat → Prop} {tb : Nat} {T : Tab} {k : Str} {l : List Event} {n : Int} (h : TabAt w P tb T) (hb : Below w.heap.size w w') (he : appendT k l T = (T, n)) : AppendOut w P tb T k l (.returned (.int .i64 n)) w' := by
 unfold AppendOut
 rw [he]
 exact ⟨rfl, (h.ext hb).mono fun g hg => .inl hg, jo hb⟩
theorem append_no (tb : Nat) (T : Tab) (k : Str) (A : Option Addr) (c : Nat) (l : List Event) (P Q : Nat → Prop) (w : World) (h : TabAt w P tb T) (hr : EventR.Row w Q A l) (hl : l.length ≤ 40000) (hk : sfit k) (hev : ∀ n, versionT T n ≤ 40000) (hT : Tabs w) (h2 : 2 ≤ w.heap.size)
 (hno : (appendT k l T).2 ≠ 0) : Calls Tryz.prog 257 #[ptrV tb, .string k, .slice A l.length c] w (AppendOut w P tb T k l) := by
 have CA := alike_any A c l Q w hr (by omega) hT h2
 have HT := jh h
 have HR := jh hr
 have CK := fun W (hb : Below w.heap.size w W) => keyF k W hk (hT.below hb)
 have HEV := jh hev
 have HNO := jh hno
 clear h hr hev hk hno
 unfold ptrV
 by_cases hl0 : l.length = 0
 ·have HL0 := jh hl0
  go_enter Tryz.func257, Tryz.ntmps257
  go_wp2_with fail
  go_ret
  exact AppendOut.same HT.out (jb _ _) (appendT_1 (.inl (List.eq_nil_of_length_eq_zero HL0.out)))
 have hl0' : ((l.length : Int) == 0) = false := by rw [beq_eq_false_iff_ne]; omega
 have hll : (0 : Int) < l.length := by omega
 have hl00 : l[0]? = some (l[0]'(by omega)) := jg (by omega)
 generalize l[0]'(by omega) = e0 at hl00
 have HL0 := jh hl00
 clear hl0 hl00
 cases hq : alikeB l
 ·have HQ := jh hq
  rw [hq] at CA
  clear hq
  go_enter Tryz.func257, Tryz.ntmps257
  go_wp2_with fail
  refine CA.mono ?_
  clear CA
  rintro e w1 ⟨rfl, hb1⟩
  go_wp2_with fail
  go_ret
  exact AppendOut.same HT.out hb1 (appendT_1 (.inr (.inl HQ.out)))
 have HQ := jh hq
 rw [hq] at CA
 clear hq
 cases hq : keyB k
 ·have HK := jh hq
  rw [hq] at CK
  clear hq
  go_enter Tryz.func257, Tryz.ntmps257
  go_wp2_with fail
  refine CA.mono ?_
  clear CA
  rintro e w1 ⟨rfl, hb1⟩
  go_wp2_with fail
  refine (CK w1 hb1).mono ?_
  clear CK
  rintro e w2 ⟨rfl, hb2⟩
  go_wp2_with fail
  go_ret
  exact AppendOut.same HT.out (hb1.tr hb2) (appendT_1 (.inr (.inr HK.out)))
 have HK := jh hq
 rw [hq] at CK
 clear hq
 cases hq : goesB l (versionT T e0.stream)
 ·have HG := jh hq
  clear hq
  have hv0 : 0 ≤ versionT T e0.stream := by unfold versionT; split <;> omega
  have hvv := HEV.out e0.stream
  have CV := fun W (hb : Below w.heap.size w W) => version_any tb T e0.stream P W (HT.out.ext hb)
  have CG := fun W (hb : Below w.heap.size w W) => goes_any A c l (versionT T e0.stream) Q W (HR.out.ext hb) (by omega) (by omega)
  rw [HG.out] at CG
  unfold ptrV at CV
  go_enter Tryz.func257, Tryz.ntmps257
  go_wp2_with fail
  refine CA.mono ?_
  clear CA
  rintro e w1 ⟨rfl, hb1⟩
  go_wp2_with fail
  refine (CK w1 hb1).mono ?_
  clear CK
  rintro e w2 ⟨rfl, hb2⟩
  obtain ⟨b, o, cs, rfl, hP, hbw, hrep, hcs⟩ := (HR.out.ext (hb1.tr hb2)).at_ HL0.out
  obtain ⟨rfl, hf⟩ := event_rep.1 hrep
  have c0 := hcs 0 _ rfl
  simp only [EventR_size, Nat.zero_mul, Nat.add_zero] at c0
  clear hcs hrep hf
  go_wp2_with fail
  refine (CV w2 (hb1.tr hb2)).mono ?_
  clear CV
  rintro e w2' ⟨rfl, rfl⟩
  go_wp2_with fail
  refine (CG w2 (hb1.tr hb2)).mono ?_
  clear CG
  rintro e w3 ⟨rfl, hb3⟩
  go_wp2_with fail
  go_ret
  exact AppendOut.same HT.out ((hb1.tr hb2).tr hb3) (appendT_5 HL0.out HQ.out HK.out HG.out)
 ·exact absurd (by rw [appendT_0 HL0.out HQ.out HK.out hq]) HNO.out
end Go.Proofs.YtcmjgghkmdbphaaGreatDoor
