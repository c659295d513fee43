/- May a batch be? event.Check: may a batch be, its sizes too? event.Encode: a batch as bytes. -/
import Derived.Test.YtcmjgghkmdbphaaGreatDoorO03
set_option maxRecDepth 20000
set_option maxHeartbeats 25600000
namespace Go.Proofs.YtcmjgghkmdbphaaGreatDoor
open Go.RowKit
theorem zero_int (w : World) : (zeroValue 3).run Tryz.prog w = .ok (.int .i64 0) w := by kernel_rfl
def metOf (l : List Put) (s : Str) : Nat := (l.filter fun p => decide (p.stream = s)).length
def putB (l : List Put) (p : Put) : Bool :=
 nameB p.stream && (decide (metOf l p.stream = 0) && (decide (-1 ≤ p.expect) && (decide (p.expect ≤ 1099511627776) && (decide (p.data ≠ []) && decide (p.data = p.data.filter validB)))))
def putsB : List Put → List Put → Bool
 | _, [] => true
 | l, p :: r => putB l p && putsB (l ++ [p]) r
def mayB (b : Batch) : Bool := putsB [] b.puts && (keyB b.key && decide (b.puts ≠ []))
theorem strKey : KeyOk Tryz.prog 9 (fun s : ByteArray => Value.string s) := str_key Tryz.underlying9
theorem metOf_snoc (l : List Put) (p : Put) (s : Str) : metOf (l ++ [p]) s = metOf l s + (if p.stream = s then 1 else 0) := by
 unfold metOf; rw [List.filter_append, List.length_append]
 by_cases h : p.stream = s <;> simp [h]
theorem putsB_drop (l : List Put) (k : Nat) (h : k < l.length) : putsB (l.take k) (l.drop k) = (putB (l.take k) l[k] && putsB (l.take (k + 1)) (l.drop (k + 1))) := by
 rw [List.drop_eq_getElem_cons h, take_snoc _ _ h]; rfl
theorem putB_iff {l : List Put} {p : Put} : putB l p = true ↔ nameB p.stream = true ∧ metOf l p.stream = 0 ∧ -1 ≤ p.expect ∧ p.expect ≤ 1099511627776 ∧ p.data ≠ [] ∧ p.data = p.data.filter validB := by
 simp only [putB, Bool.and_eq_true, decide_eq_true_eq]
theorem strR_fits {w : World} {P : Nat → Prop} {A : Option Addr} {l : List Str} (h : StrR.Row w P A l) : ∀ s ∈ l, sfit s := fun s hs => by
 obtain ⟨j, hj, rfl⟩ := List.mem_iff_getElem.1 hs
 obtain ⟨b, o, cs, _, _, _, ⟨rfl, h'⟩, _⟩ := h.at_ (jg hj)
 exact h'
def On (W : World) (w : World) : Prop := Below W.heap.size W w
instance {W : World} : Nonempty (Wd (On W)) := ⟨⟨W, jb _ _⟩⟩
theorem On.cell {W : World} {b o : Nat} {v : Value} (h : W.cell? ⟨b, o, none⟩ = some v) (d : Wd (On W)) : d.w.cell? ⟨b, o, none⟩ = some v := (Below.cell (B := W.heap.size) (w := W) d.ok (p := ⟨b, o, none⟩) (lt_of_cell h)).trans h
theorem may_any (b : Batch) (A : Option Addr) (c : Nat) (P : Nat → Prop) (w : World) (hr : PutR.Row w P A b.puts) (hl : b.puts.length ≤ 1000000) (hk : sfit b.key) (hd : ∀ p ∈ b.puts, p.data.length ≤ 1000000) (hT : Tabs w) (h2 : 2 ≤ w.heap.size) :
 Calls Tryz.prog 208 #[.agg #[.string b.key, .slice A b.puts.length c]] w fun e w' => e = .returned (.bool (mayB b)) ∧ Below w.heap.size w w' := by
 have HR := jh (hr.mono (Q := fun g => g < w.heap.size) fun g _ h => h); clear hr
 have HD := jh hd; clear hd
 have HL := jh hl; clear hl
 have hmm := @run_makeMap Tryz.prog
 go_enter Tryz.func208, Tryz.ntmps208
 go_wp2_with fail
 go_loopw [5, 10] (fun _ i wr => ∃ (k : Nat) (ps : List (Str × Value)), k ≤ b.puts.length ∧ i = .int .i64 k ∧ MapAt (fun s => .string s) wr (w.heap.size + 1) ps ∧ (∀ s, (assocOf s ps).getD (.int .i64 0) = .int .i64 (metOf (b.puts.take k) s)) ∧
  Blk wr w.heap.size 25 [.string b.key, .slice A b.puts.length c] ∧ Below w.heap.size w wr ∧ putsB (b.puts.take k) (b.puts.drop k) = putsB [] b.puts) (fun _ i _ => b.puts.length - (intOf i).toNat)
 case atStart =>
  refine ⟨0, [], Nat.zero_le _, rfl, ?_, fun s => rfl, (Blk.new w _ _).alloc _, ((jb _ _).al _).al _, rfl⟩
  have := MapAt.new (enc := fun s : Str => Value.string s) (w.alloc (.cells #[.string b.key, .slice A b.puts.length c] 25))
  simpa using this
 case round =>
  obtain ⟨k, ps, hkl, rfl, hM, hps, hB, hbl, hpb⟩ := hrel
  have hsz := hM.lt
  have HPS := jh (ja hps hpb); clear hps hpb
  by_cases hlt : k < b.puts.length
  ·have hlk := jg hlt
   obtain ⟨bb, o, cs, rfl, hP, hbw, hrep, hcs⟩ := (HR.out.ext hbl).at_ hlk
   have hpd := putsB_drop b.puts k hlt
   have hts := take_snoc b.puts k hlt
   have hdl := HD.out _ (List.getElem_mem hlt)
   generalize b.puts[k] = p at hlk hrep hpd hts hdl
   obtain ⟨A2, q2, rfl, hf1, hf2, hf3, hf4, hrow⟩ := put_rep.1 hrep
   have c0 := hcs 0 _ rfl; have c1 := hcs 1 _ rfl; have c2 := hcs 2 _ rfl; simp only [PutR_size, Nat.add_zero] at c0 c1 c2
   have HPD := jh (ja hpd (ja hts hdl)); clear hpd hcs hrep hts hlk hdl
   have hlt' : (k : Int) < b.puts.length := by omega
   have hmt : ((metOf (b.puts.take k) p.stream : Nat) : Int) ≤ 1000000 := by
    have h1 : metOf (b.puts.take k) p.stream ≤ (b.puts.take k).length := List.length_filter_le _ _
    have h3 := HL.out
    simp at h1; omega
   have hM2 := hM.alloc (.cells #[.string p.stream, .int .i64 p.expect, .slice A2 p.data.length q2] 69)
   go_wp2_with (first
    | (at_lookup; refine wpList_lookup_map strKey rfl (.tmp 14) (.tmp 16) 337 false rfl Tryz.underlying337 rfl hM2 p.stream rfl _ (zero_int _) ?_; rw [if_neg (by simp), HPS.out.1])
    | (at_mapUpdate; refine wpList_mapUpdate_map strKey rfl rfl (.tmp 14) (.tmp 16) (.tmp 18) 337 rfl Tryz.underlying337 rfl hM2 p.stream rfl _ rfl ?_; intro w2 hM3 hO3))
   have hbx := (((Blk.new wr 69 [.string p.stream, .int .i64 p.expect, .slice A2 p.data.length q2]).only hO3 (by omega)))
   have hsm : Only (· = w.heap.size + 1) wr w2 := (Only.alloc _).tr hO3
   have hB2 := hB.only hsm (by omega)
   have hbl2 := hbl.trans (hsm.low (B := w.heap.size) (fun g hg => by omega) (by omega))
   have hrow2 := hrow.same (w' := w2) (Same.of_only hsm fun g hg => by omega) hsm.size
   have hbxlt := hbx.lt
   have hgo : (assocOf p.stream (assocPut p.stream (Value.int .i64 ((metOf (b.puts.take k) p.stream : Int) + 1)) ps)).getD (.int .i64 0) = .int .i64 ((metOf (b.puts.take k) p.stream : Int) + 1) := by
    rw [assocOf_put, if_pos rfl]; rfl
   have HPS2 := jh (show ∀ s, (assocOf s (assocPut p.stream (Value.int .i64 ((metOf (b.puts.take k) p.stream : Int) + 1)) ps)).getD (.int .i64 0) = .int .i64 (metOf (b.puts.take (k + 1)) s) from fun s => by
    rw [HPD.out.2.1, metOf_snoc, assocOf_put]
    by_cases hs : s = p.stream
    ·subst hs; rw [if_pos rfl, if_pos rfl]; rfl
    ·rw [if_neg hs, if_neg (fun e => hs e.symm), HPS.out.1, Nat.add_zero])
   have HPB := jh (show putsB (b.puts.take k) (b.puts.drop k) = putsB [] b.puts from HPS.out.2)
   clear HPS hM2 hM hB hbl hO3 c0 c1 c2 hsm hsz
   generalize wr.heap.size = bx at *
   have hM4 : MapAt (fun s => .string s) w2 (w.heap.size + 1) (assocPut p.stream (Value.int .i64 ((metOf (b.puts.take k) p.stream : Int) + 1)) ps) := hM3
   have HLK := jh (fun d : Wd (On w2) => run_lookup_map strKey Tryz.underlying337 (hM4.ext d.ok) p.stream (.int .i64 0) (zero_int d.w) false)
   clear hM3
   generalize hn0 : metOf (b.puts.take k) p.stream = n0 at *
   have FX : Hid (∀ W, Below w2.heap.size w2 W → (∀ d : Wd (On W), (Instr.lookup 337 (.map (some (w.heap.size + 1))) (.string p.stream) false).run Tryz.prog d.w = .ok (.int .i64 ((n0 : Int) + 1)) d.w) ∧
    (∀ d : Wd (On W), d.w.cell? ⟨bx, 0, none⟩ = some (.string p.stream)) ∧ (∀ d : Wd (On W), d.w.cell? ⟨bx, 1, none⟩ = some (.int .i64 p.expect)) ∧ (∀ d : Wd (On W), d.w.cell? ⟨bx, 2, none⟩ = some (.slice A2 p.data.length q2))) := jh fun W hW =>
    ⟨fun d => by
     have := HLK.out ⟨d.w, hW.tr d.ok⟩
     rw [if_neg (by simp), hgo] at this
     exact this, On.cell ((hbx.ext hW).cell 0), On.cell ((hbx.ext hW).cell 1), On.cell ((hbx.ext hW).cell 2)⟩
   have HN0 := jh hn0; clear hn0 HLK hgo
   have htt := HPD.out.1
   have HTS := jh (show b.puts.take (k + 1) = b.puts.take k ++ [p] from HPD.out.2.1)
   -- a batch that may not be
   have bad : putB (b.puts.take k) p = false → false = mayB b := fun h => by
    unfold mayB
    rw [← HPB.out, HPD.out.1, h]; rfl
   have HBAD := jh bad
   clear htt bad
   have hcase : nameB p.stream = false ∨ (nameB p.stream = true ∧ n0 ≠ 0) ∨ (nameB p.stream = true ∧ n0 = 0 ∧ p.expect < -1) ∨ (nameB p.stream = true ∧ n0 = 0 ∧ ¬ p.expect < -1 ∧ 1099511627776 < p.expect) ∨
    (nameB p.stream = true ∧ n0 = 0 ∧ ¬ p.expect < -1 ∧ ¬ 1099511627776 < p.expect ∧ p.data.length = 0) ∨
    (nameB p.stream = true ∧ n0 = 0 ∧ ¬ p.expect < -1 ∧ ¬ 1099511627776 < p.expect ∧ p.data.length ≠ 0) := by
    cases h : nameB p.stream
    ·exact Or.inl rfl
    ·by_cases n0 = 0 <;> by_cases p.expect < -1 <;> by_cases 1099511627776 < p.expect <;> by_cases p.data.length = 0 <;> simp only [*, and_true, or_false, ne_eq, not_true_eq_false, not_false_eq_true, or_true, and_false]
   rcases hcase with g | g | g | g | g | g
   ·have G1 := jh g
    clear g
    obtain ⟨hlk, x0, x1, x2⟩ := FX.out w2 (jb _ _)
    refine wp_region_mix (.seg [0, 1] 2 (.seg [3, 4, 5, 6, 7, 8, 9, 10, 11, 12, 13, 14, 15, 16, 17, 18, 19, 20, 21, 22, 23, 24, 25, 26, 27, 28, 29, 30, 31] 32 (.seg [] 33 (.leaf [34, 35])))) (fun w' => ∃ d : Wd (On w2), w' = d.w) (by kernel_rfl) (by kernel_rfl) (fun _ _ d _ _ h => by cases d <;> exact h) (ClsW.mk (jb _ _).drew) ?_
    unfold wpMix; simp only [pick, j1, j2, j3, j4]
    (repeat (show wpQuiet _ _ _ _ (_ :: _) _; go_big_quiet_step (fail))); refine qn ?_
    go_wp2_with fail
    refine (nameF p.stream _ hf1 (hT.below hbl2.drew)).mono ?_
    rintro e w3 ⟨rfl, hb3'⟩
    have hb3 : Below w2.heap.size w2 w3 := (jb _ w2).drew.tr hb3'
    clear hb3'
    have g := G1.out
    skip
    rw [show nameB p.stream = false from g]
    clear hlk x0 x1 x2 g
    obtain ⟨hlk, x0, x1, x2⟩ := FX.out w3 hb3
    go_wp2_with fail
    dsimp only [wpList, SegQ]
    refine ⟨fun w' => ∃ d : Wd (On w3), w' = d.w, ClsW.mk (jb _ _), ClsW.sub (fun W' h => hb3.tr h), ?_⟩
    unfold wpMix; simp only [pick, j1, j2, j3, j4]
    (repeat (show wpQuiet _ _ _ _ (_ :: _) _; go_big_quiet_step (fail))); refine qn ?_
    go_wp2_with fail
    dsimp only [wpList, SegQ]
    refine ⟨fun w' => ∃ d : Wd (On w3), w' = d.w, ClsW.mk (jb _ _), fun _ h => h, ?_⟩
    unfold wpMix; simp only [pick, j1, j2, j3, j4]
    (repeat (show wpQuiet _ _ _ _ (_ :: _) _; go_big_quiet_step (fail))); refine qn ?_
    go_wp2_with fail
    dsimp only [wpList, SegQ]
    refine ⟨fun w' => ∃ d : Wd (On w3), w' = d.w, ClsW.mk (jb _ _), fun _ h => h, ?_⟩
    unfold wpMix; simp only [pick, j1, j2, j3, j4]
    (repeat (show wpQuiet _ _ _ _ (_ :: _) _; go_big_quiet_step (fail))); refine qn ?_
    go_wp2_with fail
    go_ret
    refine ⟨ret_bool (HBAD.out (Bool.eq_false_iff.2 fun h => ?_)), hbl2.tr hb3⟩
    have h := putB_iff.1 h
    rw [HN0.out] at h
    have g := G1.out
    rw [g] at h ; exact absurd h.1 (by simp)
   ·have G2 := jh g
    clear g
    obtain ⟨hlk, x0, x1, x2⟩ := FX.out w2 (jb _ _)
    refine wp_region_mix (.seg [0, 1] 2 (.seg [3, 4, 5, 6, 7, 8, 9, 10, 11, 12, 13, 14, 15, 16, 17, 18, 19, 20, 21, 22, 23, 24, 25, 26, 27, 28, 29, 30, 31] 32 (.seg [] 33 (.leaf [34, 35])))) (fun w' => ∃ d : Wd (On w2), w' = d.w) (by kernel_rfl) (by kernel_rfl) (fun _ _ d _ _ h => by cases d <;> exact h) (ClsW.mk (jb _ _).drew) ?_
    unfold wpMix; simp only [pick, j1, j2, j3, j4]
    (repeat (show wpQuiet _ _ _ _ (_ :: _) _; go_big_quiet_step (fail))); refine qn ?_
    go_wp2_with fail
    refine (nameF p.stream _ hf1 (hT.below hbl2.drew)).mono ?_
    rintro e w3 ⟨rfl, hb3'⟩
    have hb3 : Below w2.heap.size w2 w3 := (jb _ w2).drew.tr hb3'
    clear hb3'
    have g := G2.out
    (have g1 : (1 : Int) < (n0 : Int) + 1 := by have := g.2 ; omega)
    rw [g.1]
    clear hlk x0 x1 x2 g
    obtain ⟨hlk, x0, x1, x2⟩ := FX.out w3 hb3
    go_wp2_with fail
    dsimp only [wpList, SegQ]
    refine ⟨fun w' => ∃ d : Wd (On w3), w' = d.w, ClsW.mk (jb _ _), ClsW.sub (fun W' h => hb3.tr h), ?_⟩
    unfold wpMix; simp only [pick, j1, j2, j3, j4]
    (repeat (show wpQuiet _ _ _ _ (_ :: _) _; go_big_quiet_step (fail))); refine qn ?_
    go_wp2_with fail
    dsimp only [wpList, SegQ]
    refine ⟨fun w' => ∃ d : Wd (On w3), w' = d.w, ClsW.mk (jb _ _), fun _ h => h, ?_⟩
    unfold wpMix; simp only [pick, j1, j2, j3, j4]
    (repeat (show wpQuiet _ _ _ _ (_ :: _) _; go_big_quiet_step (fail))); refine qn ?_
    go_wp2_with fail
    dsimp only [wpList, SegQ]
    refine ⟨fun w' => ∃ d : Wd (On w3), w' = d.w, ClsW.mk (jb _ _), fun _ h => h, ?_⟩
    unfold wpMix; simp only [pick, j1, j2, j3, j4]
    (repeat (show wpQuiet _ _ _ _ (_ :: _) _; go_big_quiet_step (fail))); refine qn ?_
    go_wp2_with fail
    go_ret
    refine ⟨ret_bool (HBAD.out (Bool.eq_false_iff.2 fun h => ?_)), hbl2.tr hb3⟩
    have h := putB_iff.1 h
    rw [HN0.out] at h
    have g := G2.out
    exact g.2 h.2.1
   ·have G3 := jh g
    clear g
    obtain ⟨hlk, x0, x1, x2⟩ := FX.out w2 (jb _ _)
    refine wp_region_mix (.seg [0, 1] 2 (.seg [3, 4, 5, 6, 7, 8, 9, 10, 11, 12, 13, 14, 15, 16, 17, 18, 19, 20, 21, 22, 23, 24, 25, 26, 27, 28, 29, 30, 31] 32 (.seg [] 33 (.leaf [34, 35])))) (fun w' => ∃ d : Wd (On w2), w' = d.w) (by kernel_rfl) (by kernel_rfl) (fun _ _ d _ _ h => by cases d <;> exact h) (ClsW.mk (jb _ _).drew) ?_
    unfold wpMix; simp only [pick, j1, j2, j3, j4]
    (repeat (show wpQuiet _ _ _ _ (_ :: _) _; go_big_quiet_step (fail))); refine qn ?_
    go_wp2_with fail
    refine (nameF p.stream _ hf1 (hT.below hbl2.drew)).mono ?_
    rintro e w3 ⟨rfl, hb3'⟩
    have hb3 : Below w2.heap.size w2 w3 := (jb _ w2).drew.tr hb3'
    clear hb3'
    have g := G3.out
    (have g1 : decide ((1 : Int) < (n0 : Int) + 1) = false := jd (by omega)) ; (have g2 : p.expect < -1 := g.2.2)
    rw [g.1]
    clear hlk x0 x1 x2 g
    obtain ⟨hlk, x0, x1, x2⟩ := FX.out w3 hb3
    go_wp2_with fail
    dsimp only [wpList, SegQ]
    refine ⟨fun w' => ∃ d : Wd (On w3), w' = d.w, ClsW.mk (jb _ _), ClsW.sub (fun W' h => hb3.tr h), ?_⟩
    unfold wpMix; simp only [pick, j1, j2, j3, j4]
    (repeat (show wpQuiet _ _ _ _ (_ :: _) _; go_big_quiet_step (fail))); refine qn ?_
    go_wp2_with fail
    dsimp only [wpList, SegQ]
    refine ⟨fun w' => ∃ d : Wd (On w3), w' = d.w, ClsW.mk (jb _ _), fun _ h => h, ?_⟩
    unfold wpMix; simp only [pick, j1, j2, j3, j4]
    (repeat (show wpQuiet _ _ _ _ (_ :: _) _; go_big_quiet_step (fail))); refine qn ?_
    go_wp2_with fail
    dsimp only [wpList, SegQ]
    refine ⟨fun w' => ∃ d : Wd (On w3), w' = d.w, ClsW.mk (jb _ _), fun _ h => h, ?_⟩
    unfold wpMix; simp only [pick, j1, j2, j3, j4]
    (repeat (show wpQuiet _ _ _ _ (_ :: _) _; go_big_quiet_step (fail))); refine qn ?_
    go_wp2_with fail
    go_ret
    refine ⟨ret_bool (HBAD.out (Bool.eq_false_iff.2 fun h => ?_)), hbl2.tr hb3⟩
    have h := putB_iff.1 h
    rw [HN0.out] at h
    have g := G3.out
    have := h.2.2.1 ; omega
   ·have G4 := jh g
    clear g
    obtain ⟨hlk, x0, x1, x2⟩ := FX.out w2 (jb _ _)
    refine wp_region_mix (.seg [0, 1] 2 (.seg [3, 4, 5, 6, 7, 8, 9, 10, 11, 12, 13, 14, 15, 16, 17, 18, 19, 20, 21, 22, 23, 24, 25, 26, 27, 28, 29, 30, 31] 32 (.seg [] 33 (.leaf [34, 35])))) (fun w' => ∃ d : Wd (On w2), w' = d.w) (by kernel_rfl) (by kernel_rfl) (fun _ _ d _ _ h => by cases d <;> exact h) (ClsW.mk (jb _ _).drew) ?_
    unfold wpMix; simp only [pick, j1, j2, j3, j4]
    (repeat (show wpQuiet _ _ _ _ (_ :: _) _; go_big_quiet_step (fail))); refine qn ?_
    go_wp2_with fail
    refine (nameF p.stream _ hf1 (hT.below hbl2.drew)).mono ?_
    rintro e w3 ⟨rfl, hb3'⟩
    have hb3 : Below w2.heap.size w2 w3 := (jb _ w2).drew.tr hb3'
    clear hb3'
    have g := G4.out
    (have g1 : decide ((1 : Int) < (n0 : Int) + 1) = false := jd (by omega)) ; (have g2 : decide (p.expect < -1) = false := jd (by have := g.2.2.1 ; omega)) ; (have g3 : 1099511627776 < p.expect := g.2.2.2)
    rw [g.1]
    clear hlk x0 x1 x2 g
    obtain ⟨hlk, x0, x1, x2⟩ := FX.out w3 hb3
    go_wp2_with fail
    dsimp only [wpList, SegQ]
    refine ⟨fun w' => ∃ d : Wd (On w3), w' = d.w, ClsW.mk (jb _ _), ClsW.sub (fun W' h => hb3.tr h), ?_⟩
    unfold wpMix; simp only [pick, j1, j2, j3, j4]
    (repeat (show wpQuiet _ _ _ _ (_ :: _) _; go_big_quiet_step (fail))); refine qn ?_
    go_wp2_with fail
    dsimp only [wpList, SegQ]
    refine ⟨fun w' => ∃ d : Wd (On w3), w' = d.w, ClsW.mk (jb _ _), fun _ h => h, ?_⟩
    unfold wpMix; simp only [pick, j1, j2, j3, j4]
    (repeat (show wpQuiet _ _ _ _ (_ :: _) _; go_big_quiet_step (fail))); refine qn ?_
    go_wp2_with fail
    dsimp only [wpList, SegQ]
    refine ⟨fun w' => ∃ d : Wd (On w3), w' = d.w, ClsW.mk (jb _ _), fun _ h => h, ?_⟩
    unfold wpMix; simp only [pick, j1, j2, j3, j4]
    (repeat (show wpQuiet _ _ _ _ (_ :: _) _; go_big_quiet_step (fail))); refine qn ?_
    go_wp2_with fail
    go_ret
    refine ⟨ret_bool (HBAD.out (Bool.eq_false_iff.2 fun h => ?_)), hbl2.tr hb3⟩
    have h := putB_iff.1 h
    rw [HN0.out] at h
    have g := G4.out
    have := h.2.2.2.1 ; omega
   ·have G5 := jh g
    clear g
    obtain ⟨hlk, x0, x1, x2⟩ := FX.out w2 (jb _ _)
    refine wp_region_mix (.seg [0, 1] 2 (.seg [3, 4, 5, 6, 7, 8, 9, 10, 11, 12, 13, 14, 15, 16, 17, 18, 19, 20, 21, 22, 23, 24, 25, 26, 27, 28, 29, 30, 31] 32 (.seg [] 33 (.leaf [34, 35])))) (fun w' => ∃ d : Wd (On w2), w' = d.w) (by kernel_rfl) (by kernel_rfl) (fun _ _ d _ _ h => by cases d <;> exact h) (ClsW.mk (jb _ _).drew) ?_
    unfold wpMix; simp only [pick, j1, j2, j3, j4]
    (repeat (show wpQuiet _ _ _ _ (_ :: _) _; go_big_quiet_step (fail))); refine qn ?_
    go_wp2_with fail
    refine (nameF p.stream _ hf1 (hT.below hbl2.drew)).mono ?_
    rintro e w3 ⟨rfl, hb3'⟩
    have hb3 : Below w2.heap.size w2 w3 := (jb _ w2).drew.tr hb3'
    clear hb3'
    have g := G5.out
    (have g1 : decide ((1 : Int) < (n0 : Int) + 1) = false := jd (by omega)) ; (have g2 : decide (p.expect < -1) = false := jd (by have := g.2.2.1 ; omega)) ; (have g3 : decide (1099511627776 < p.expect) = false := jd (by have := g.2.2.2.1 ; omega)) ; (have g4 : p.data.length = 0 := g.2.2.2.2)
    rw [g.1]
    clear hlk x0 x1 x2 g
    obtain ⟨hlk, x0, x1, x2⟩ := FX.out w3 hb3
    go_wp2_with fail
    dsimp only [wpList, SegQ]
    refine ⟨fun w' => ∃ d : Wd (On w3), w' = d.w, ClsW.mk (jb _ _), ClsW.sub (fun W' h => hb3.tr h), ?_⟩
    unfold wpMix; simp only [pick, j1, j2, j3, j4]
    (repeat (show wpQuiet _ _ _ _ (_ :: _) _; go_big_quiet_step (fail))); refine qn ?_
    go_wp2_with fail
    dsimp only [wpList, SegQ]
    refine ⟨fun w' => ∃ d : Wd (On w3), w' = d.w, ClsW.mk (jb _ _), fun _ h => h, ?_⟩
    unfold wpMix; simp only [pick, j1, j2, j3, j4]
    (repeat (show wpQuiet _ _ _ _ (_ :: _) _; go_big_quiet_step (fail))); refine qn ?_
    go_wp2_with fail
    dsimp only [wpList, SegQ]
    refine ⟨fun w' => ∃ d : Wd (On w3), w' = d.w, ClsW.mk (jb _ _), fun _ h => h, ?_⟩
    unfold wpMix; simp only [pick, j1, j2, j3, j4]
    (repeat (show wpQuiet _ _ _ _ (_ :: _) _; go_big_quiet_step (fail))); refine qn ?_
    go_wp2_with fail
    go_ret
    refine ⟨ret_bool (HBAD.out (Bool.eq_false_iff.2 fun h => ?_)), hbl2.tr hb3⟩
    have h := putB_iff.1 h
    rw [HN0.out] at h
    have g := G5.out
    exact h.2.2.2.2.1 (List.length_eq_zero_iff.1 g.2.2.2.2)
   ·have G6 := jh g
    clear g
    have g1 : decide ((1 : Int) < (n0 : Int) + 1) = false := jd (by have := G6.out.2.1; omega)
    have g2 : decide (p.expect < -1) = false := jd (by have := G6.out.2.2.1; omega)
    have g3 : decide (1099511627776 < p.expect) = false := jd (by have := G6.out.2.2.2.1; omega)
    have g4 : ((p.data.length : Int) == 0) = false := by rw [beq_eq_false_iff_ne]; have := G6.out.2.2.2.2; omega
    have HROW := jh hrow2
    obtain ⟨hlk, x0, x1, x2⟩ := FX.out w2 (jb _ _)
    refine wp_region_mix (.seg [0, 1] 2 (.seg [3, 4, 5, 6, 7, 8, 9, 10, 11, 12, 13, 14, 15, 16, 17, 18, 19, 20, 21, 22, 23, 24, 25, 26, 27, 28, 29, 30, 31] 32 (.seg [] 33 (.leaf [34, 35])))) (fun w' => ∃ d : Wd (On w2), w' = d.w) (by kernel_rfl) (by kernel_rfl) (fun _ _ d _ _ h => by cases d <;> exact h) (ClsW.mk (jb _ _).drew) ?_
    unfold wpMix; simp only [pick, j1, j2, j3, j4]
    (repeat (show wpQuiet _ _ _ _ (_ :: _) _; go_big_quiet_step (fail))); refine qn ?_
    go_wp2_with fail
    refine (nameF p.stream _ hf1 (hT.below hbl2.drew)).mono ?_
    rintro e w3 ⟨rfl, hb3'⟩
    have hb3 : Below w2.heap.size w2 w3 := (jb _ w2).drew.tr hb3'
    clear hb3'
    rw [G6.out.1]
    clear hlk x0 x1 x2
    obtain ⟨hlk, x0, x1, x2⟩ := FX.out w3 hb3
    go_wp2_with fail
    dsimp only [wpList, SegQ]
    refine ⟨fun w' => ∃ d : Wd (On w3), w' = d.w, ClsW.mk (jb _ _), ClsW.sub (fun W' h => hb3.tr h), ?_⟩
    unfold wpMix; simp only [pick, j1, j2, j3, j4]
    (repeat (show wpQuiet _ _ _ _ (_ :: _) _; go_big_quiet_step (fail))); refine qn ?_
    go_wp2_with fail
    refine (validL_any A2 q2 p.data _ w3 (HROW.out.ext hb3) (by have := HPD.out.2.2; omega) (strR_fits HROW.out) (hT.below (hbl2.tr hb3)) (by have := hb3.size; have := hbl2.size; omega)).mono ?_
    rintro e w4 ⟨⟨v4, rfl, ho4⟩, hb4⟩
    obtain ⟨A4, c4, rfl, hm4, hc4⟩ := ho4.form
    clear hlk x0 x1 x2
    obtain ⟨hlk, x0, x1, x2⟩ := FX.out w4 (hb3.tr hb4)
    go_wp2_with fail
    dsimp only [wpList, SegQ]
    refine ⟨fun w' => ∃ d : Wd (On w4), w' = d.w, ClsW.mk (jb _ _), ClsW.sub (fun W' h => hb4.tr h), ?_⟩
    unfold wpMix; simp only [pick, j1, j2, j3, j4]
    (repeat (show wpQuiet _ _ _ _ (_ :: _) _; go_big_quiet_step (fail))); refine qn ?_
    go_wp2_with fail
    refine (equal_any A2 A4 q2 c4 p.data (p.data.filter validB) _ _ w4 (HROW.out.ext (hb3.tr hb4)) (ho4.row (fun g h => Or.inl h)) (by have := HPD.out.2.2; omega) (by have := HPD.out.2.2; have := List.length_filter_le validB p.data; omega)).mono ?_
    rintro e w5 ⟨rfl, hb5⟩
    clear hlk x0 x1 x2
    generalize hq : decide (p.data = p.data.filter validB) = q
    have HQ := jh hq
    clear hq
    have hb52 := hb3.tr (hb4.tr hb5)
    have HWK : Hid (wrap64 ((k : Int) + 1) = ((k + 1 : Nat) : Int)) := jh <| by have := HL.out; rw [wrap_in _ (by omega)]; rfl
    cases q
    ·go_wp2_with fail
     dsimp only [wpList, SegQ]
     refine ⟨fun w' => ∃ d : Wd (On w5), w' = d.w, ClsW.mk (jb _ _), ClsW.sub (fun W' h => hb5.tr h), ?_⟩
     unfold wpMix; simp only [pick, j1, j2, j3, j4]
     (repeat (show wpQuiet _ _ _ _ (_ :: _) _; go_big_quiet_step (fail))); refine qn ?_
     go_wp2_with fail
     go_ret
     refine ⟨ret_bool (HBAD.out (Bool.eq_false_iff.2 fun h => ?_)), hbl2.tr hb52⟩
     have h := putB_iff.1 h
     have g := HQ.out
     rw [decide_eq_false_iff_not] at g
     exact g h.2.2.2.2.2
    ·go_wp2_with fail
     dsimp only [wpList, SegQ]
     refine ⟨fun w' => ∃ d : Wd (On w5), w' = d.w, ClsW.mk (jb _ _), ClsW.sub (fun W' h => hb5.tr h), ?_⟩
     unfold wpMix; simp only [pick, j1, j2, j3, j4]
     (repeat (show wpQuiet _ _ _ _ (_ :: _) _; go_big_quiet_step (fail))); refine qn ?_
     go_wp2_with fail
     go_round
     case rel =>
      refine ⟨k + 1, _, by omega, by rw [HWK.out], hM4.ext hb52, HPS2.out, hB2.ext hb52, hbl2.tr hb52, ?_⟩
      have h := HPB.out
      rw [HPD.out.1, putB_iff.2 ⟨G6.out.1, by rw [HN0.out, G6.out.2.1], by have := G6.out.2.2.1; omega, by have := G6.out.2.2.2.1; omega, fun e => G6.out.2.2.2.2 (by rw [e]; rfl), of_decide_eq_true HQ.out⟩, Bool.true_and] at h
      exact h
     case measure => rw [HWK.out]; simp [intOf]; omega
  ·have hk : k = b.puts.length := by omega
   subst hk
   have hpe : putsB [] b.puts = true := by rw [← HPS.out.2, List.drop_length]; cases b.puts.take b.puts.length <;> rfl
   have HPE := jh hpe
   clear hpe hM
   have b0 : wr.cell? ⟨w.heap.size, 0, none⟩ = some (.string b.key) := hB.cell 0
   have C := keyF b.key wr hk (hT.below hbl)
   go_wp2_with fail
   refine C.mono ?_
   clear C b0
   rintro e w6 ⟨rfl, hb6⟩
   have b1 : w6.cell? ⟨w.heap.size, 1, none⟩ = some (.slice A b.puts.length c) := (hB.ext hb6).cell 1
   generalize hq : keyB b.key = q
   have HQ := jh hq
   clear hq
   cases q
   ·go_wp2_with fail
    go_ret
    exact ⟨ret_bool (by unfold mayB; rw [HPE.out, HQ.out]; rfl), hbl.tr hb6⟩
   ·by_cases hl0 : 0 < b.puts.length
    ·have hl1 : (0 : Int) < b.puts.length := by omega
     go_wp2_with fail
     go_ret
     exact ⟨ret_bool (by unfold mayB; rw [HPE.out, HQ.out]; simp; intro h; rw [h] at hl0; exact absurd hl0 (by simp)), hbl.tr hb6⟩
    ·have hl1 : decide ((0 : Int) < b.puts.length) = false := jd (by omega)
     go_wp2_with fail
     go_ret
     exact ⟨ret_bool (by unfold mayB; rw [HPE.out, HQ.out]; simp; apply List.length_eq_zero_iff.1; omega), hbl.tr hb6⟩
end Go.Proofs.YtcmjgghkmdbphaaGreatDoor
namespace Go.Proofs.YtcmjgghkmdbphaaGreatDoor
open Go.RowKit
def dataB : List Str → Nat → Bool → Int → Bool × Int
 | [], _, b, n => (b, n)
 | s :: r, i, b, n => if b then (b, n) else dataB r (i + 1) (decide (20 ≤ i) || (decide (1000 < s.size) || decide (n - s.size < 0))) (n - s.size)
def putsBig : List Put → Bool → Int → Bool
 | [], b, _ => b
 | p :: r, b, n => putsBig r (dataB p.data 0 b n).1 (dataB p.data 0 b n).2
def checkB (b : Batch) : Int := if mayB b then (if putsBig b.puts (decide ((8 : Int) < b.puts.length)) 30000 then 2 else 0) else 1
theorem dataB_true (l : List Str) (i : Nat) (n : Int) : dataB l i true n = (true, n) := by cases l <;> rfl
theorem dataB_drop (l : List Str) (j : Nat) (n : Int) (h : j < l.length) : dataB (l.drop j) j false n = dataB (l.drop (j + 1)) (j + 1) (decide (20 ≤ j) || (decide (1000 < l[j].size) || decide (n - l[j].size < 0))) (n - l[j].size) := by
 rw [List.drop_eq_getElem_cons h]; rfl
theorem putsBig_drop (l : List Put) (k : Nat) (b : Bool) (n : Int) (h : k < l.length) : putsBig (l.drop k) b n = putsBig (l.drop (k + 1)) (dataB l[k].data 0 b n).1 (dataB l[k].data 0 b n).2 := by
 rw [List.drop_eq_getElem_cons h]; rfl
theorem check_any (b : Batch) (A : Option Addr) (c : Nat) (P : Nat → Prop) (w : World) (hr : PutR.Row w P A b.puts) (hl : b.puts.length ≤ 1000000) (hk : sfit b.key) (hd : ∀ p ∈ b.puts, p.data.length ≤ 1000000) (hT : Tabs w) (h2 : 2 ≤ w.heap.size) :
 Calls Tryz.prog 110 #[.agg #[.string b.key, .slice A b.puts.length c]] w fun e w' => e = .returned (.int .i64 (checkB b)) ∧ Below w.heap.size w w' := by
 have HR := jh (hr.mono (Q := fun g => g < w.heap.size) fun g _ h => h)
 have HD := jh hd
 have HM := jh (fun W (h : Below w.heap.size w W) (h' : w.heap.size ≤ W.heap.size) => may_any b A c P W (hr.ext h) hl hk hd (hT.below h) (by omega))
 clear hr hd
 have HL := jh hl; clear hl
 go_enter Tryz.func110, Tryz.ntmps110
 go_wp2_with fail
 have b0 := (Blk.new w 25 [.string b.key, .slice A b.puts.length c])
 have hb0 : Below w.heap.size w (w.alloc (.cells #[.string b.key, .slice A b.puts.length c] 25)) := (jb _ _).al _
 refine (HM.out _ hb0 (by simp)).mono ?_
 rintro e w1 ⟨rfl, hb1⟩
 have B1 := b0.ext hb1
 have hw1 := hb0.tr hb1
 clear b0 hb0 hb1
 generalize hq : mayB b = q
 have HQ := jh hq
 clear hq HM
 cases q
 ·go_wp2_with fail
  go_ret
  exact ⟨by unfold checkB; rw [HQ.out]; rfl, hw1⟩
 ·have b0 : w1.cell? ⟨w.heap.size, 0, none⟩ = some (.string b.key) := B1.cell 0
  have b1 : w1.cell? ⟨w.heap.size, 1, none⟩ = some (.slice A b.puts.length c) := B1.cell 1
  go_wp2_with fail
  clear b0 b1
  go_loopw [3, 4, 6, 7, 18] (fun bg lf _ _ i wr => ∃ (k : Nat) (g : Bool) (n : Int), k ≤ b.puts.length ∧ i = .int .i64 k ∧ bg = .bool g ∧ lf = .int .i64 n ∧ (g = false → 0 ≤ n) ∧ (-9223372036854775808 ≤ n ∧ n ≤ 30000) ∧
   Below w.heap.size w wr ∧ putsBig (b.puts.drop k) g n = putsBig b.puts (decide ((8 : Int) < b.puts.length)) 30000) (fun _ _ _ _ i _ => b.puts.length - (intOf i).toNat)
  case atStart => exact ⟨0, _, _, Nat.zero_le _, rfl, rfl, rfl, fun _ => by omega, by omega, hw1, rfl⟩
  case round =>
   obtain ⟨k, g, n, hkl, rfl, rfl, rfl, hg, hn, hbl, hpb⟩ := hrel
   have HPB := jh hpb; clear hpb
   have HG := jh hg; clear hg
   by_cases hlt : k < b.puts.length
   ·have hlk := jg hlt
    obtain ⟨bb, o, cs, rfl, hP, hbw, hrep, hcs⟩ := (HR.out.ext hbl).at_ hlk
    have hpd := putsBig_drop b.puts k g n hlt
    have hdl := HD.out _ (List.getElem_mem hlt)
    generalize b.puts[k] = p at hlk hrep hpd hdl
    obtain ⟨A2, q2, rfl, hf1, hf2, hf3, hf4, hrow⟩ := put_rep.1 hrep
    have c0 := hcs 0 _ rfl; have c1 := hcs 1 _ rfl; have c2 := hcs 2 _ rfl; simp only [PutR_size, Nat.add_zero] at c0 c1 c2
    have HPD := jh (ja hpd hdl); clear hpd hdl hcs hrep hlk
    have hlt' : (k : Int) < b.puts.length := by omega
    go_wp2_with fail
    have hbx := Blk.new wr 69 [.string p.stream, .int .i64 p.expect, .slice A2 p.data.length q2]
    have hblx := hbl.al (.cells #[.string p.stream, .int .i64 p.expect, .slice A2 p.data.length q2] 69)
    have hrowx := hrow.ext (((jb _ _).al (.cells #[.string p.stream, .int .i64 p.expect, .slice A2 p.data.length q2] 69)))
    have hbxs : Hid (wr.heap.size < (wr.alloc (.cells #[.string p.stream, .int .i64 p.expect, .slice A2 p.data.length q2] 69)).heap.size) := jh (by simp)
    generalize (wr.alloc (.cells #[.string p.stream, .int .i64 p.expect, .slice A2 p.data.length q2] 69)) = wx at *
    generalize wr.heap.size = bx at *
    clear c0 c1 c2
    have HROW := jh hrowx
    have HWK : Hid (wrap64 ((k : Int) + 1) = ((k + 1 : Nat) : Int)) := jh (by have := HL.out; rw [wrap_in _ (by omega)]; rfl)
    go_loopw [3, 4, 7] (fun bg lf j wq => ∃ (m : Nat) (g' : Bool) (n' : Int), m ≤ p.data.length ∧ j = .int .i64 m ∧ bg = .bool g' ∧ lf = .int .i64 n' ∧ (g' = false → 0 ≤ n') ∧ (-9223372036854775808 ≤ n' ∧ n' ≤ 30000) ∧
     Below wx.heap.size wx wq ∧ dataB (p.data.drop m) m g' n' = dataB p.data 0 g n) (fun _ _ j _ => p.data.length - (intOf j).toNat)
    case atStart => exact ⟨0, _, _, Nat.zero_le _, rfl, rfl, rfl, HG.out, hn, jb _ _, rfl⟩
    case round =>
     obtain ⟨m, g', n', hml, rfl, rfl, rfl, hg', hn', hbq, hdb⟩ := hrel
     have c2 : wr.cell? ⟨bx, 2, none⟩ = some (.slice A2 p.data.length q2) := (hbx.ext hbq).cell 2
     have HDB := jh hdb; clear hdb
     have HG' := jh hg'; clear hg'
     by_cases hmt : m < p.data.length
     ·cases g'
      ·have hlk := jg hmt
       obtain ⟨b3, o3, cs, rfl, hP3, hb3, ⟨rfl, hsf⟩, hcs⟩ := (HROW.out.ext hbq).at_ hlk
       have hdd := dataB_drop p.data m n' hmt
       generalize p.data[m] = s at *
       have c0 := hcs 0 _ rfl; simp only [StrR_size, Nat.add_zero, Nat.mul_one] at c0
       have HDD := jh hdd; clear hdd hcs hlk
       have hmt' : (m : Int) < p.data.length := by omega
       have hm6 : (m : Int) ≤ 1000000 := by have := HPD.out.2; omega
       have hn0 := HG'.out rfl
       have hsub : -9223372036854775808 ≤ n' - (s.size : Int) ∧ n' - (s.size : Int) ≤ 9223372036854775807 := by omega
       have HS := jh hsf
       have hnext : ∀ (q : Bool), q = (decide (20 ≤ m) || (decide (1000 < s.size) || decide (n' - s.size < 0))) → (q = false → 0 ≤ n' - (s.size : Int)) ∧ dataB (p.data.drop (m + 1)) (m + 1) q (n' - s.size) = dataB p.data 0 g n := fun q hq => by
        subst hq
        exact ⟨fun h => by simp at h; omega, by rw [← HDB.out, HDD.out]⟩
       have HN := jh hnext; clear hnext
       have HWM : Hid (wrap64 ((m : Int) + 1) = ((m + 1 : Nat) : Int)) := jh (by rw [wrap_in _ (by omega)]; rfl)
       have hw3 : wrap64 (n' - (s.size : Int)) = n' - (s.size : Int) := wrap_in _ hsub
       have hcase : (20 : Int) ≤ m ∨ (¬ (20 : Int) ≤ m ∧ (1000 : Int) < s.size) ∨ (¬ (20 : Int) ≤ m ∧ ¬ (1000 : Int) < s.size ∧ n' - (s.size : Int) < 0) ∨ (¬ (20 : Int) ≤ m ∧ ¬ (1000 : Int) < s.size ∧ ¬ n' - (s.size : Int) < 0) := by omega
       rcases hcase with g | g | g | g
       ·have G := jh g
        clear g
        have g1 : (20 : Int) ≤ m := G.out
        go_wp2_with fail
        go_round
        case rel =>
         have hv : true = (decide (20 ≤ m) || (decide (1000 < s.size) || decide (n' - s.size < 0))) := by
          have := G.out
          clear G
          by_cases h1 : 20 ≤ m <;> by_cases h2 : 1000 < s.size <;> by_cases h3 : n' - (s.size : Int) < 0 <;> simp [h1, h2, h3] <;> omega
         have := HN.out true hv
         exact ⟨m + 1, _, _, by omega, by first | rfl | rw [HWM.out], rfl, rfl, this.1, by omega, hbq, this.2⟩
        case measure => first | (simp [intOf]; omega) | (rw [HWM.out]; simp [intOf]; omega)
       ·have G := jh g
        clear g
        (have g1 : decide ((20 : Int) ≤ m) = false := jd (by have := G.out ; omega)) ; (have g2 : (1000 : Int) < s.size := G.out.2)
        go_wp2_with fail
        go_round
        case rel =>
         have hv : true = (decide (20 ≤ m) || (decide (1000 < s.size) || decide (n' - s.size < 0))) := by
          have := G.out
          clear G
          by_cases h1 : 20 ≤ m <;> by_cases h2 : 1000 < s.size <;> by_cases h3 : n' - (s.size : Int) < 0 <;> simp [h1, h2, h3] <;> omega
         have := HN.out true hv
         exact ⟨m + 1, _, _, by omega, by first | rfl | rw [HWM.out], rfl, rfl, this.1, by omega, hbq, this.2⟩
        case measure => first | (simp [intOf]; omega) | (rw [HWM.out]; simp [intOf]; omega)
       ·have G := jh g
        clear g
        (have g1 : decide ((20 : Int) ≤ m) = false := jd (by have := G.out ; omega)) ; (have g2 : decide ((1000 : Int) < s.size) = false := jd (by have := G.out ; omega)) ; (have g3 : n' - (s.size : Int) < 0 := G.out.2.2)
        go_wp2_with fail
        go_round
        case rel =>
         have hv : true = (decide (20 ≤ m) || (decide (1000 < s.size) || decide (n' - s.size < 0))) := by
          have := G.out
          clear G
          by_cases h1 : 20 ≤ m <;> by_cases h2 : 1000 < s.size <;> by_cases h3 : n' - (s.size : Int) < 0 <;> simp [h1, h2, h3] <;> omega
         have := HN.out true hv
         exact ⟨m + 1, _, _, by omega, by first | rfl | rw [HWM.out], rfl, rfl, this.1, by omega, hbq, this.2⟩
        case measure => first | (simp [intOf]; omega) | (rw [HWM.out]; simp [intOf]; omega)
       ·have G := jh g
        clear g
        (have g1 : decide ((20 : Int) ≤ m) = false := jd (by have := G.out ; omega)) ; (have g2 : decide ((1000 : Int) < s.size) = false := jd (by have := G.out ; omega)) ; (have g3 : decide (n' - (s.size : Int) < 0) = false := jd (by have := G.out ; omega))
        go_wp2_with fail
        go_round
        case rel =>
         have hv : false = (decide (20 ≤ m) || (decide (1000 < s.size) || decide (n' - s.size < 0))) := by
          have := G.out
          clear G
          by_cases h1 : 20 ≤ m <;> by_cases h2 : 1000 < s.size <;> by_cases h3 : n' - (s.size : Int) < 0 <;> simp [h1, h2, h3] <;> omega
         have := HN.out false hv
         exact ⟨m + 1, _, _, by omega, by first | rfl | rw [HWM.out], rfl, rfl, this.1, by omega, hbq, this.2⟩
        case measure => first | (simp [intOf]; omega) | (rw [HWM.out]; simp [intOf]; omega)
      ·go_wp2_with fail
       go_round
       case rel =>
        have h := HDB.out
        rw [dataB_true] at h
        have hp := HPB.out
        rw [HPD.out.1, ← h] at hp
        exact ⟨k + 1, _, _, by omega, by rw [HWK.out], rfl, rfl, (fun h => by cases h), by omega, hblx.tr hbq, hp⟩
       case measure => rw [HWK.out]; simp [intOf]; omega
     ·have hmn : m = p.data.length := by omega
      subst hmn
      go_wp2_with fail
      go_round
      case rel =>
       have h := HDB.out
       rw [List.drop_length] at h
       change (g', n') = _ at h
       have hp := HPB.out
       rw [HPD.out.1, ← h] at hp
       exact ⟨k + 1, _, _, by omega, by rw [HWK.out], rfl, rfl, HG'.out, by omega, hblx.tr hbq, hp⟩
      case measure => rw [HWK.out]; simp [intOf]; omega
   ·have hkn : k = b.puts.length := by omega
    subst hkn
    have hp := HPB.out
    rw [List.drop_length] at hp
    change g = _ at hp
    have HP := jh hp
    clear hp
    cases g
    ·go_wp2_with fail
     go_ret
     exact ⟨by unfold checkB; rw [HQ.out, ← HP.out]; rfl, hbl⟩
    ·go_wp2_with fail
     go_ret
     exact ⟨by unfold checkB; rw [HQ.out, ← HP.out]; rfl, hbl⟩
end Go.Proofs.YtcmjgghkmdbphaaGreatDoor
namespace Go.Proofs.YtcmjgghkmdbphaaGreatDoor
open Go.RowKit
theorem decode_four (s : ByteArray) (i : Nat) : (Utf8.decode s i).2 ≤ 4 := by
 unfold Utf8.decode
 dsimp only
 repeat' split
 all_goals simp
theorem everyFrom_short {p : Int → Bool} {most : Int} {s : Str} : ∀ (f pos : Nat) (n : Int), everyFrom p most s f pos n = true → s.size < f + pos → n ≤ most → (s.size : Int) ≤ pos + 4 * (most - n)
 | 0, pos, n, _, h, hn => by omega
 | f + 1, pos, n, h, hs, hn => by
   unfold everyFrom at h
   by_cases hp : pos < s.size
   ·rw [if_pos hp] at h
    by_cases hq : (decide (n + 1 ≤ most) && p (Utf8.decode s pos).1) = true
    ·rw [if_pos (by simpa using hq)] at h
     have h1 : n + 1 ≤ most := by simp at hq; exact hq.1
     have h2 := decode_width s pos
     have h4 := decode_four s pos
     have := everyFrom_short f _ _ h (by omega) h1
     omega
    ·rw [if_neg (by simpa using hq)] at h; cases h
   ·omega
theorem everyB_short {p : Int → Bool} {s : Str} (h : everyB p 40 s = true) : s.size ≤ 160 := by
 simp only [everyB, Bool.and_eq_true] at h
 have := everyFrom_short _ _ _ h.1 (by omega) (by omega)
 omega
theorem nameB_short {s : Str} (h : nameB s = true) : s.size ≤ 160 := by
 simp only [nameB, Bool.and_eq_true] at h
 exact everyB_short h.2
theorem keyB_short {s : Str} (h : keyB s = true) : s.size ≤ 160 := everyB_short h
theorem dataB_false : ∀ (l : List Str) (i : Nat) (b : Bool) (n : Int), (dataB l i b n).1 = false → b = false ∧ (l.length = 0 ∨ i + l.length ≤ 20) ∧ ∀ s ∈ l, s.size ≤ 1000
 | [], i, b, n, h => ⟨h, .inl rfl, by simp⟩
 | s :: r, i, true, n, h => by simp [dataB] at h
 | s :: r, i, false, n, h => by
   simp only [dataB, Bool.false_eq_true, if_false] at h
   obtain ⟨h1, h2, h3⟩ := dataB_false r _ _ _ h
   simp only [Bool.or_eq_false_iff, decide_eq_false_iff_not] at h1
   refine ⟨rfl, .inr ?_, fun t ht => ?_⟩
   ·simp only [List.length_cons]; omega
   ·rcases List.mem_cons.1 ht with rfl | ht
    ·omega
    ·exact h3 t ht
theorem putsBig_false : ∀ (l : List Put) (b : Bool) (n : Int), putsBig l b n = false → b = false ∧ ∀ p ∈ l, p.data.length ≤ 20 ∧ ∀ s ∈ p.data, s.size ≤ 1000
 | [], b, n, h => ⟨h, by simp⟩
 | p :: r, b, n, h => by
   unfold putsBig at h
   obtain ⟨h1, h2⟩ := putsBig_false r _ _ h
   obtain ⟨h3, h4, h5⟩ := dataB_false _ _ _ _ h1
   refine ⟨h3, fun q hq => ?_⟩
   rcases List.mem_cons.1 hq with rfl | hq
   ·exact ⟨by omega, h5⟩
   ·exact h2 q hq
theorem putsB_names : ∀ (l r : List Put), putsB l r = true → ∀ p ∈ r, nameB p.stream = true ∧ p.data ≠ [] ∧ p.data = p.data.filter validB ∧ -1 ≤ p.expect ∧ p.expect ≤ 1099511627776
 | _, [], _, p, hp => by simp at hp
 | l, q :: r, h, p, hp => by
   simp only [putsB, Bool.and_eq_true] at h
   rcases List.mem_cons.1 hp with rfl | hp
   ·have := putB_iff.1 h.1
    exact ⟨this.1, this.2.2.2.2.1, this.2.2.2.2.2, this.2.2.1, this.2.2.2.1⟩
   ·exact putsB_names _ r h.2 p hp
structure Batch.Good (b : Batch) : Prop where
 key : keyB b.key = true
 some : b.puts ≠ []
 few : b.puts.length ≤ 8
 puts : ∀ p ∈ b.puts, (p.data.length ≤ 20 ∧ ∀ s ∈ p.data, s.size ≤ 1000) ∧ nameB p.stream = true ∧ p.data ≠ [] ∧ p.data = p.data.filter validB ∧ -1 ≤ p.expect ∧ p.expect ≤ 1099511627776
theorem checkB_good {b : Batch} (h : checkB b = 0) : b.Good := by
 unfold checkB at h
 by_cases hm : mayB b = true
 ·rw [if_pos hm] at h
  cases hp : putsBig b.puts (decide ((8 : Int) < b.puts.length)) 30000
  ·obtain ⟨h1, h2⟩ := putsBig_false _ _ _ hp
   simp only [mayB, Bool.and_eq_true, decide_eq_true_eq] at hm
   exact ⟨hm.2.1, hm.2.2, by simp at h1; omega, fun p hq => ⟨h2 p hq, putsB_names _ _ hm.1 p hq⟩⟩
  ·rw [hp, if_pos rfl] at h; cases h
 ·rw [if_neg hm] at h; cases h
theorem u64_blk1 {w : World} {g : Nat} {t : TypeId} {x : Int} (h : Blk w g t [.int .u64 x]) (hx : 0 ≤ x ∧ x < limV 0) : U64R.Row w (· = g) (some ⟨g, 0, none⟩) [x] := fun _ => by
 refine ⟨g, 0, rfl, rfl, h.lt, fun i a hi => ?_⟩
 match i, hi with
 | 0, hi =>
   simp at hi; subst hi
   exact ⟨[_], ⟨rfl, hx⟩, fun j u hu => by rw [h.cell]; simpa using hu⟩
theorem u64_blk2 {w : World} {g : Nat} {t : TypeId} {x y : Int} (h : Blk w g t [.int .u64 x, .int .u64 y]) (hx : 0 ≤ x ∧ x < limV 0) (hy : 0 ≤ y ∧ y < limV 0) : U64R.Row w (· = g) (some ⟨g, 0, none⟩) [x, y] := fun _ => by
 refine ⟨g, 0, rfl, rfl, h.lt, fun i a hi => ?_⟩
 match i, hi with
 | 0, hi =>
   simp at hi; subst hi
   exact ⟨[_], ⟨rfl, hx⟩, fun j u hu => by
    rw [h.cell]
    match j, hu with
    | 0, hu => simpa using hu⟩
 | 1, hi =>
   simp at hi; subst hi
   exact ⟨[_], ⟨rfl, hy⟩, fun j u hu => by
    rw [h.cell]
    match j, hu with
    | 0, hu => simpa [U64R] using hu⟩
theorem nums1_any (v : Value) (n base g : Nat) (t : TypeId) (x : Int) (w : World) (hv : Bts w base v n) (hg : Blk w g t [.int .u64 x]) (hx : 0 ≤ x ∧ x < limV 0) (hl : n ≤ 90000000) (hb : base ≤ w.heap.size) (hd : some g ≠ v.ownBlock) :
 Calls Tryz.prog 230 #[v, .slice (some ⟨g, 0, none⟩) 1 1] w fun e w' => GotMore w v base (n + 1) (n + 10) e w' ∧ Only (fun g => v.ownBlock = some g) w w' :=
 nums_any v n base _ 1 [x] (· = g) w hv (u64_blk1 hg hx) hl (by simp) hb (fun k hk => by rw [hk]; exact hd)
theorem nums2_any (v : Value) (n base g : Nat) (t : TypeId) (x y : Int) (w : World) (hv : Bts w base v n) (hg : Blk w g t [.int .u64 x, .int .u64 y]) (hx : 0 ≤ x ∧ x < limV 0) (hy : 0 ≤ y ∧ y < limV 0) (hl : n ≤ 90000000) (hb : base ≤ w.heap.size) (hd : some g ≠ v.ownBlock) :
 Calls Tryz.prog 230 #[v, .slice (some ⟨g, 0, none⟩) 2 2] w fun e w' => GotMore w v base (n + 2) (n + 20) e w' ∧ Only (fun g => v.ownBlock = some g) w w' :=
 nums_any v n base _ 2 [x, y] (· = g) w hv (u64_blk2 hg hx hy) hl (by simp) hb (fun k hk => by rw [hk]; exact hd)
def OnB (B : Nat) (W w : World) : Prop := Below B W w
instance {B : Nat} {W : World} : Nonempty (Wd (OnB B W)) := ⟨⟨W, jb _ _⟩⟩
theorem OnB.cell {B : Nat} {W : World} {b o : Nat} {v : Value} (hb : b < B) (h : W.cell? ⟨b, o, none⟩ = some v) (d : Wd (OnB B W)) : d.w.cell? ⟨b, o, none⟩ = some v := (Below.cell d.ok (p := ⟨b, o, none⟩) hb).trans h
theorem encodeB_any (b : Batch) (A : Option Addr) (c : Nat) (P : Nat → Prop) (w : World) (hr : PutR.Row w P A b.puts) (hl : b.puts.length ≤ 1000000) (hk : sfit b.key) (hd : ∀ p ∈ b.puts, p.data.length ≤ 1000000) (hT : Tabs w) (h2 : 2 ≤ w.heap.size) :
 Calls Tryz.prog 138 #[.agg #[.string b.key, .slice A b.puts.length c]] w fun e w' => GotEnc (decide (checkB b = 0)) w.heap.size 1 400000 e w' ∧ Below w.heap.size w w' := by
 have C := check_any b A c P (w.alloc (.cells #[.string b.key, .slice A b.puts.length c] 25)) (hr.ext ((jb _ _).al _)) hl hk hd (hT.below ((jb _ _).al _)) (by simp; omega)
 have HR := jh (hr.mono (Q := fun g => g < w.heap.size) fun g _ h => h)
 have HL := jh hl
 clear hr hd hl
 by_cases hc : checkB b = 0
 ·have HG := jh (checkB_good hc)
  have HC := jh hc
  rw [hc] at C
  clear hc
  go_enter Tryz.func138, Tryz.ntmps138
  go_wp2_with fail
  refine C.mono ?_
  clear C
  rintro e w1 ⟨rfl, hb1⟩
  have B1 := (Blk.new w 25 [.string b.key, .slice A b.puts.length c]).ext hb1
  have hw1 : Below w.heap.size w w1 := ((jb _ _).al _).tr hb1
  have hz1 := hb1.size
  simp only [World.size_alloc] at hz1
  have hdr : w1.drew.heap.size = w1.heap.size := rfl
  clear hb1
  have x0 := OnB.cell (B := w.heap.size + 1) (W := w1) (by omega) (B1.cell 0 : w1.cell? ⟨w.heap.size, 0, none⟩ = some (.string b.key))
  have x1 := OnB.cell (B := w.heap.size + 1) (W := w1) (by omega) (B1.cell 1 : w1.cell? ⟨w.heap.size, 1, none⟩ = some (.slice A b.puts.length c))
  go_wp2_with fail
  go_cut [3] from 11 to 19 (fun v wx => ∃ n, Bts wx (w.heap.size + 1) v n ∧ 1 ≤ n ∧ n ≤ 200 ∧ Below (w.heap.size + 1) w1 wx)
  case first =>
   refine wp_region_mix (.fork [0, 1, 3, 4, 5, 6] 2 (.seg [] 7 (.seg [] 8 (.leaf [9]))) 7 (.seg [] 2 (.seg [] 8 (.leaf [9])))) (fun w' => ∃ d : Wd (OnB (w.heap.size + 1) w1), w' = d.w) (by kernel_rfl) (by kernel_rfl) (fun _ _ d _ _ h => by cases d <;> exact h) (ClsW.mk (jb _ _).drew) ?_
   unfold wpMix; simp only [pick, j1, j2, j3, j4]
   (repeat (show wpQuiet _ _ _ _ (_ :: _) _; go_big_quiet_step (fail))); refine qn ?_
   constructor
   ·go_wp2_with fail
    refine (text_any _ 0 0 b.key _ (Bts.nil_ _ _) (by have := keyB_short HG.out.key; omega)).mono ?_
    rintro e w2 ⟨⟨v2, n2, rfl, hv2, hn2, hn2'⟩, hb2'⟩
    have hb2 : Below w1.heap.size w1 w2 := (jb _ w1).drew.tr hb2'
    clear hb2'
    go_wp2_with fail
    dsimp only [wpList, SegQ]
    refine ⟨fun w' => ∃ d : Wd (OnB (w.heap.size + 1) w1), w' = d.w, ClsW.mk (hb2.mono (by omega)), fun _ h => h, ?_⟩
    unfold wpMix; simp only [pick, j1, j2, j3, j4]
    (repeat (show wpQuiet _ _ _ _ (_ :: _) _; go_big_quiet_step (fail))); refine qn ?_
    go_wp2_with fail
    dsimp only [wpList, SegQ]
    refine ⟨fun w' => ∃ d : Wd (OnB (w.heap.size + 1) w1), w' = d.w, ClsW.mk ((hb2.mono (by omega)).alloc (by have := hb2.size; omega) _), fun _ h => h, ?_⟩
    unfold wpMix; simp only [pick, j1, j2, j3, j4]
    (repeat (show wpQuiet _ _ _ _ (_ :: _) _; go_big_quiet_step (fail))); refine qn ?_
    go_wp2_with fail
    have hne : some w2.heap.size ≠ v2.ownBlock := fun h => by have := (hv2.lt _ h.symm).2; omega
    refine (nums1_any v2 n2 (w.heap.size + 1) w2.heap.size 303 _ _ ((hv2.base_ hz1).ext ((jb _ _).al _)) (Blk.new w2 _ _) (wrap_u64_bd _) (by have := keyB_short HG.out.key; omega) (by have := hb2.size; simp; omega) hne).mono ?_
    rintro e w3 ⟨⟨v3, n3, rfl, hv3, hn3, hn3', _⟩, ho3⟩
    have hb3 : Below (w.heap.size + 1) w1 w3 := ((hb2.mono hz1).alloc (by have := hb2.size; omega) _).trans (ho3.low (fun g hg => by have := (hv2.lt g hg).1; exact Nat.le_trans hz1 this) (by have := hb2.size; simp; omega))
    go_wp2_with fail
    dsimp only [wpList, SegQ]
    refine ⟨fun w' => ∃ d : Wd (OnB (w.heap.size + 1) w1), w' = d.w, ClsW.mk hb3, fun _ h => h, ?_⟩
    unfold wpMix; simp only [pick, j1, j2, j3, j4]
    (repeat (show wpQuiet _ _ _ _ (_ :: _) _; go_big_quiet_step (fail))); refine qn ?_
    go_wp2_with fail
    go_meet
    exact ⟨n3, hv3, by omega, by have := keyB_short HG.out.key; omega, hb3⟩
   ·go_wp2_with fail
    dsimp only [wpList, SegQ]
    refine ⟨fun w' => ∃ d : Wd (OnB (w.heap.size + 1) w1), w' = d.w, ClsW.mk ((jb _ w1).drew.alloc (by omega) _), fun _ h => h, ?_⟩
    unfold wpMix; simp only [pick, j1, j2, j3, j4]
    (repeat (show wpQuiet _ _ _ _ (_ :: _) _; go_big_quiet_step (fail))); refine qn ?_
    go_wp2_with fail
    refine (text_any _ 0 0 b.key _ (Bts.nil_ _ _) (by have := keyB_short HG.out.key; omega)).mono ?_
    rintro e w2 ⟨⟨v2, n2, rfl, hv2, hn2, hn2'⟩, hb2'⟩
    have hb2 := (jb (w.heap.size + 1) w1).drew.trans (((jb _ w1.drew).alloc hz1 _).trans (hb2'.mono (by simp; omega)))
    have hg2 := (Blk.new w1.drew 303 [.int .u64 (IntKind.u64.wrap b.puts.length)]).ext hb2'
    have hz2 := hb2'.size
    have hlt2 := hv2.lt
    clear hb2'
    go_wp2_with fail
    dsimp only [wpList, SegQ]
    refine ⟨fun w' => ∃ d : Wd (OnB (w.heap.size + 1) w1), w' = d.w, ClsW.mk hb2, fun _ h => h, ?_⟩
    unfold wpMix; simp only [pick, j1, j2, j3, j4]
    (repeat (show wpQuiet _ _ _ _ (_ :: _) _; go_big_quiet_step (fail))); refine qn ?_
    go_wp2_with fail
    have hne : some w1.heap.size ≠ v2.ownBlock := fun h => by have := (hlt2 _ h.symm).1; simp at this; omega
    refine (nums1_any v2 n2 (w.heap.size + 1) w1.heap.size 303 _ _ (hv2.base_ (by simp; omega)) hg2 (wrap_u64_bd _) (by have := keyB_short HG.out.key; omega) (by simp at hz2; omega) hne).mono ?_
    rintro e w3 ⟨⟨v3, n3, rfl, hv3, hn3, hn3', _⟩, ho3⟩
    have hb3 : Below (w.heap.size + 1) w1 w3 := hb2.trans (ho3.low (fun g hg => by have := (hlt2 g hg).1; simp at this; omega) (by simp at hz2; omega))
    go_wp2_with fail
    dsimp only [wpList, SegQ]
    refine ⟨fun w' => ∃ d : Wd (OnB (w.heap.size + 1) w1), w' = d.w, ClsW.mk hb3, fun _ h => h, ?_⟩
    unfold wpMix; simp only [pick, j1, j2, j3, j4]
    (repeat (show wpQuiet _ _ _ _ (_ :: _) _; go_big_quiet_step (fail))); refine qn ?_
    go_wp2_with fail
    go_meet
    exact ⟨n3, hv3, by omega, by have := keyB_short HG.out.key; omega, hb3⟩
  case rest =>
   obtain ⟨n0, hv0, hn0, hn0', hbc⟩ := hcut
   clear x0 x1
   have x1 : wc.cell? ⟨w.heap.size, 1, none⟩ = some (.slice A b.puts.length c) := (Below.cell hbc (p := ⟨w.heap.size, 1, none⟩) (by show w.heap.size < _; omega)).trans (B1.cell 1)
   have hlc := hbc.size
   go_wp2_with fail
   clear x1
   go_loopw [3, 5, 7, 23, 43] (fun out _ _ i _ wr => ∃ (k n : Nat), k ≤ b.puts.length ∧ i = .int .i64 k ∧ Bts wr (w.heap.size + 1) out n ∧ 1 ≤ n ∧ n ≤ 200 + 20400 * k ∧ Below (w.heap.size + 1) w1 wr) (fun _ _ _ i _ _ => b.puts.length - (intOf i).toNat)
   case atStart => exact ⟨0, n0, Nat.zero_le _, rfl, hv0, by omega, by omega, hbc⟩
   case round =>
    obtain ⟨k, n, hkl, rfl, hv, hn1, hn2, hbl⟩ := hrel
    have hzr := hbl.size
    have h8 := HG.out.few
    by_cases hlt : k < b.puts.length
    ·have hlk := jg hlt
     obtain ⟨bb, o, cs, rfl, hP, hbw, hrep, hcs⟩ := (HR.out.ext (hw1.trans (hbl.mono (by omega)))).at_ hlk
     have hgp := HG.out.puts _ (List.getElem_mem hlt)
     generalize b.puts[k] = p at hlk hrep hgp
     obtain ⟨A2, q2, rfl, hf1, hf2, hf3, hf4, hrow⟩ := put_rep.1 hrep
     have c0 := hcs 0 _ rfl; have c1 := hcs 1 _ rfl; have c2 := hcs 2 _ rfl; simp only [PutR_size, Nat.add_zero] at c0 c1 c2
     have HP := jh hgp; clear hgp hcs hrep hlk
     have hlt' : (k : Int) < b.puts.length := by omega
     go_wp2_with fail
     have hbx := Blk.new wr 69 [.string p.stream, .int .i64 p.expect, .slice A2 p.data.length q2]
     have hax := (jb wr.heap.size wr).al (.cells #[.string p.stream, .int .i64 p.expect, .slice A2 p.data.length q2] 69)
     have hrowx := hrow.ext hax
     have hvx := hv.ext hax
     have hzx : (wr.alloc (.cells #[.string p.stream, .int .i64 p.expect, .slice A2 p.data.length q2] 69)).heap.size = wr.heap.size + 1 := by simp
     have hblx := hbl.trans (hax.mono (by omega))
     clear c0 c1 c2 hrow hv
     generalize (wr.alloc (.cells #[.string p.stream, .int .i64 p.expect, .slice A2 p.data.length q2] 69)) = wx at *
     generalize wr.heap.size = bx at *
     have x0 := OnB.cell (B := bx + 1) (W := wx) (by omega) (hbx.cell 0 : wx.cell? ⟨bx, 0, none⟩ = some (.string p.stream))
     have x1 := OnB.cell (B := bx + 1) (W := wx) (by omega) (hbx.cell 1 : wx.cell? ⟨bx, 1, none⟩ = some (.int .i64 p.expect))
     have x2 := OnB.cell (B := bx + 1) (W := wx) (by omega) (hbx.cell 2 : wx.cell? ⟨bx, 2, none⟩ = some (.slice A2 p.data.length q2))
     have hdx : wx.drew.heap.size = wx.heap.size := rfl
     refine wp_region_mix (.seg [0, 1, 2, 4, 5, 7, 8, 9, 10] 3 (.seg [] 6 (.seg [] 11 (.seg [] 12 (.leaf [13]))))) (fun w' => ∃ d : Wd (OnB (bx + 1) wx), w' = d.w) (by kernel_rfl) (by kernel_rfl) (fun _ _ d _ _ h => by cases d <;> exact h) (ClsW.mk (jb _ _).drew) ?_
     unfold wpMix; simp only [pick, j1, j2, j3, j4]
     (repeat (show wpQuiet _ _ _ _ (_ :: _) _; go_big_quiet_step (fail))); refine qn ?_
     go_wp2_with fail
     refine (text_any _ n (w.heap.size + 1) p.stream _ (hvx.ext (jb _ _).drew) (by have := nameB_short HP.out.2.1; omega)).mono ?_
     rintro e w2 ⟨⟨v2, n2, rfl, hv2, hm2, hm2'⟩, hb2'⟩
     have hb2 : Below wx.heap.size wx w2 := (jb _ wx).drew.tr hb2'
     have hz2 := hb2.size
     have hlt2 := hv2.lt
     clear hb2'
     go_wp2_with fail
     dsimp only [wpList, SegQ]
     refine ⟨fun w' => ∃ d : Wd (OnB (bx + 1) wx), w' = d.w, ClsW.mk (hb2.mono (by omega)), fun _ h => h, ?_⟩
     unfold wpMix; simp only [pick, j1, j2, j3, j4]
     (repeat (show wpQuiet _ _ _ _ (_ :: _) _; go_big_quiet_step (fail))); refine qn ?_
     go_wp2_with fail
     refine (zig_any p.expect _ hf2).mono ?_
     rintro e w2' ⟨⟨z, rfl, hz⟩, rfl⟩
     go_wp2_with fail
     dsimp only [wpList, SegQ]
     refine ⟨fun w' => ∃ d : Wd (OnB (bx + 1) wx), w' = d.w, ClsW.mk (hb2.mono (by omega)), fun _ h => h, ?_⟩
     unfold wpMix; simp only [pick, j1, j2, j3, j4]
     (repeat (show wpQuiet _ _ _ _ (_ :: _) _; go_big_quiet_step (fail))); refine qn ?_
     go_wp2_with fail
     dsimp only [wpList, SegQ]
     refine ⟨fun w' => ∃ d : Wd (OnB (bx + 1) wx), w' = d.w, ClsW.mk ((hb2.mono (by omega)).alloc (by omega) _), fun _ h => h, ?_⟩
     unfold wpMix; simp only [pick, j1, j2, j3, j4]
     (repeat (show wpQuiet _ _ _ _ (_ :: _) _; go_big_quiet_step (fail))); refine qn ?_
     go_wp2_with fail
     have hne : some w2.heap.size ≠ v2.ownBlock := fun h => by have := (hlt2 _ h.symm).2; omega
     refine (nums2_any v2 n2 (bx + 1) w2.heap.size 303 z (p.data.length : Int) (w2.alloc (.cells #[.int .u64 z, .int .u64 (p.data.length : Int)] 303)) ((hv2.base_ (by omega)).ext ((jb _ _).al _)) (Blk.new w2 _ _) hz ⟨by omega, by simp only [limV]; have := HP.out.1.1; omega⟩ (by have := nameB_short HP.out.2.1; omega) (by simp; omega) hne).mono ?_
     rintro e w3 ⟨⟨v3, n3, rfl, hv3, hn3, hn3', _⟩, ho3⟩
     have hb3 : Below (bx + 1) wx w3 := ((hb2.mono (by omega)).alloc (by omega) _).trans (ho3.low (fun g hg => by have := (hlt2 g hg).1; omega) (by simp; omega))
     have hz3 := hb3.size
     go_wp2_with fail
     dsimp only [wpList, SegQ]
     refine ⟨fun w' => ∃ d : Wd (OnB (bx + 1) wx), w' = d.w, ClsW.mk hb3, fun _ h => h, ?_⟩
     unfold wpMix; simp only [pick, j1, j2, j3, j4]
     (repeat (show wpQuiet _ _ _ _ (_ :: _) _; go_big_quiet_step (fail))); refine qn ?_
     have hl3 := hb3
     have y2 : w3.cell? ⟨bx, 2, none⟩ = some (.slice A2 p.data.length q2) := x2 ⟨w3, hb3⟩
     have hv3' := hv3.base_ (show w.heap.size + 1 ≤ bx + 1 by omega)
     have hrow3 := hrowx.same (w' := w3) (Same.of_belowB (B := bx) (hb3.mono (by omega)) (fun g hg => by omega)) (by omega)
     have hbl3 : Below (w.heap.size + 1) w1 w3 := hblx.trans (hb3.mono (by omega))
     have hmn : n3 ≤ n + 200 := by have := nameB_short HP.out.2.1; omega
     have HROW := jh hrow3
     have HWK : Hid (wrap64 ((k : Int) + 1) = ((k + 1 : Nat) : Int)) := jh (by have := HL.out; rw [wrap_in _ (by omega)]; rfl)
     clear x0 x1 x2 hl3 hb3 ho3 hv3 hv2 hlt2 hb2 hrow3 hrowx hvx
     go_wp2_with fail
     clear y2
     go_loopw [3, 7, 43] (fun out _ j wr => ∃ (m n' : Nat), m ≤ p.data.length ∧ j = .int .i64 m ∧ Bts wr (w.heap.size + 1) out n' ∧ 1 ≤ n' ∧ n' ≤ n3 + 1010 * m ∧ Below w3.heap.size w3 wr) (fun _ _ j _ => p.data.length - (intOf j).toNat)
     case atStart => exact ⟨0, n3, Nat.zero_le _, rfl, hv3', by omega, by omega, jb _ _⟩
     case round =>
      obtain ⟨m, n', hml, rfl, hv', hn1', hn2', hbq⟩ := hrel
      have h20 := HP.out.1.1
      by_cases hmt : m < p.data.length
      ·have hlk := jg hmt
       obtain ⟨b3, o3, cs, rfl, hP3, hb3, ⟨rfl, hsf⟩, hcs⟩ := (HROW.out.ext hbq).at_ hlk
       have hs1 := HP.out.1.2 _ (List.getElem_mem hmt)
       generalize p.data[m] = s at *
       have c0 := hcs 0 _ rfl; simp only [StrR_size, Nat.add_zero, Nat.mul_one] at c0
       clear hcs hlk
       have hmt' : (m : Int) < p.data.length := by omega
       go_wp2_with fail
       refine (text_any _ n' (w.heap.size + 1) s _ hv' (by omega)).mono ?_
       rintro e w5 ⟨⟨v5, n5, rfl, hv5, hm5, hm5'⟩, hb5⟩
       clear c0
       go_wp2_with fail
       go_round
       case rel => exact ⟨m + 1, n5, by omega, by go_num, hv5.base_ (by have := hbq.size; omega), by omega, by omega, hbq.tr hb5⟩
       case measure => simp [intOf]; omega
      ·have hmn' : m = p.data.length := by omega
       subst hmn'
       go_wp2_with fail
       go_round
       case rel => exact ⟨k + 1, n', by omega, by first | rfl | rw [HWK.out], hv', by omega, by omega, hbl3.trans (hbq.mono (by omega))⟩
       case measure => first | (simp [intOf]; omega) | (rw [HWK.out]; simp [intOf]; omega)
    ·go_wp2_with fail
     go_ret
     refine ⟨?_, hw1.trans (hbl.mono (by omega))⟩
     rw [decide_eq_true HC.out]
     exact GotEnc.yes ⟨_, n, rfl, hv.base_ (by omega), hn1, by omega⟩
 ·have HC := jh hc
  have hc' : ((checkB b) != 0) = true := by rw [bne_iff_ne]; exact hc
  clear hc
  go_enter Tryz.func138, Tryz.ntmps138
  go_wp2_with fail
  refine C.mono ?_
  clear C
  rintro e w1 ⟨rfl, hb1⟩
  go_wp2_with fail
  go_ret
  refine ⟨?_, ((jb _ _).al _).tr hb1⟩
  rw [jd HC.out]
  exact GotEnc.no rfl
end Go.Proofs.YtcmjgghkmdbphaaGreatDoor
