/- slices.Delete at records. state.release. state.Apply for any record, in one. state.State.Frozen. ring.Merge: what it computes (plain law). -/
import Derived.Test.YtpgocpodhamibaaGreatDoorN05
import Derived.Test.YtpgocpodhamibaaGreatDoorN02
import Derived.Test.YtpgocpodhamibaaGreatDoorNK07
import Derived.Test.YtpgocpodhamibaaGreatDoorN03
import Derived.Test.YtpgocpodhamibaaGreatDoorN01
import Derived.Test.YtpgocpodhamibaaGreatDoorN04
import Derived.Test.YtpgocpodhamibaaGreatDoorNL02
import Derived.Test.YtpgocpodhamibaaGreatDoorNK02
import Derived.Test.YtpgocpodhamibaaGreatDoorNL01
namespace Go.Proofs.YtpgocpodhamibaaGreatDoor
open Go.RowKit
theorem flatten_split {s : Nat} : ∀ {css : List (List Value)}, (∀ cs ∈ css, cs.length = s) → ∀ k, css.flatten.take (k * s) = (css.take k).flatten ∧ css.flatten.drop (k * s) = (css.drop k).flatten
 | [], _, k => by simp
 | c :: r, h, 0 => by simp
 | c :: r, h, k + 1 => by
   have hc := h c (by simp)
   obtain ⟨h1, h2⟩ := flatten_split (css := r) (fun cs hcs => h cs (by simp [hcs])) k
   have e : (k + 1) * s = c.length + k * s := by rw [hc, Nat.succ_mul]; omega
   rw [List.flatten_cons, e, List.take_length_add_append, List.drop_length_add_append, h1, h2]
   simp
theorem zero_rec (w : World) : (zeroValue 43).run Tryz.prog w = .ok (.agg (Rec.cells ⟨0, 0, 0, false, ⟨0, 0, 0⟩, ⟨0, 0, 0⟩, [], ⟨⟨#[]⟩, []⟩, ⟨0, 0, 0, 0⟩, []⟩ none 0 none 0 none 0).toArray) w := by kernel_rfl
theorem flat_erase {α : Type} {R : Rep α} {w : World} {P : Nat → Prop} {xs : List Value} {l : List α} (h : R.flat w P xs l) {i : Nat} (_hi : i < l.length) : R.flat w P (xs.take (i * R.size) ++ xs.drop ((i + 1) * R.size)) (l.eraseIdx i) := by
 obtain ⟨css, rfl, hc, hr⟩ := h
 have hs : ∀ cs ∈ css, cs.length = R.size := fun cs hcs => by
  obtain ⟨k, hk, rfl⟩ := List.getElem_of_mem hcs
  exact R.len (hr k _ _ (List.getElem?_eq_getElem hk) (List.getElem?_eq_getElem (by omega)))
 refine ⟨css.eraseIdx i, ?_, by rw [List.length_eraseIdx, List.length_eraseIdx, hc], fun k cs a hk ha => ?_⟩
 ·rw [(flatten_split hs i).1, (flatten_split hs (i + 1)).2, ← List.flatten_append, List.eraseIdx_eq_take_drop_succ]
 ·rw [List.getElem?_eraseIdx] at hk ha
  by_cases hki : k < i
  ·rw [if_pos hki] at hk ha; exact hr k cs a hk ha
  ·rw [if_neg hki] at hk ha; exact hr (k + 1) cs a hk ha
def delC (cl : List Value) (i n : Nat) : List Value := cl.take (i * 18) ++ (cl.drop ((i + 1) * 18)).take (n * 18) ++ cl.drop ((i + n) * 18)
theorem del_cells {cl : List Value} {cap i n : Nat} {z : List Value} (hcl : cl.length = cap * 18) (hn : i + 1 + n ≤ cap) (hz : z.length = 18) :
 (delC cl i n).length = cap * 18 ∧ ((delC cl i n).take ((i + n) * 18) ++ z ++ (delC cl i n).drop ((i + n) * 18 + 18)).length = cap * 18 ∧
 ((delC cl i n).take ((i + n) * 18) ++ z ++ (delC cl i n).drop ((i + n) * 18 + 18)).take ((i + n) * 18) = (cl.take ((i + 1 + n) * 18)).take (i * 18) ++ (cl.take ((i + 1 + n) * 18)).drop ((i + 1) * 18) := by
 have h1 : (delC cl i n).length = cap * 18 := by
  unfold delC
  simp only [List.length_append, List.length_take, List.length_drop, hcl]
  omega
 have h2 : ((delC cl i n).take ((i + n) * 18)).length = (i + n) * 18 := by rw [List.length_take, h1]; omega
 refine ⟨h1, ?_, ?_⟩
 ·simp only [List.length_append, h2, hz, List.length_drop, h1]
  omega
 ·rw [List.append_assoc, List.take_append_of_le_length (by omega), List.take_take, Nat.min_self]
  unfold delC
  have e1 : (cl.take (i * 18) ++ (cl.drop ((i + 1) * 18)).take (n * 18)).length = (i + n) * 18 := by
   simp only [List.length_append, List.length_take, List.length_drop, hcl]
   omega
  rw [List.take_append_of_le_length (by omega), List.take_of_length_le (by omega), List.take_take, List.drop_take, Nat.min_eq_left (by omega)]
  congr 2
  omega
def DelOut (w : World) (v : Value) (B : Nat) (S : Nat → Prop) (l : List Rec) (e : Ending) (w' : World) : Prop := ∃ v', e = .returned v' ∧ RecR.Own w' B 43 S v' l ∧ Only (fun q => v.ownBlock = some q) w w'
set_option maxRecDepth 20000 in
set_option maxHeartbeats 3200000 in
theorem delete_any (v : Value) (l : List Rec) (i : Nat) (B : Nat) (S : Nat → Prop) (w : World) (h : RecR.Own w B 43 S v l) (hi : i < l.length) (hl : l.length ≤ 1000000) :
 Calls Tryz.prog 170 #[v, .int .i64 i, .int .i64 ((i : Int) + 1)] w (DelOut w v B S (l.eraseIdx i)) := by
 obtain ⟨xs, ⟨hxl, hd⟩, hflat⟩ := h
 rcases hd with ⟨h0, _⟩ | ⟨g, cap, cur, rfl, hB, hg, hn, hc, hs, ht⟩
 ·omega
 have hBk : Blk w g 43 cur.toList := by unfold Blk; simpa using hg
 have hcl : cur.toList.length = cap * 18 := by rw [Array.length_toList, hs]; rfl
 have HX := jh (ja hxl (ja ht (ja hflat hB)))
 have hc63 : cap ≤ 9223372036854775807 := by unfold maxLen at hc; omega
 generalize cur.toList = cl at *
 clear hg hs ht hxl hflat hB hc
 have hne : ((i : Int) == (i : Int) + 1) = false := by rw [beq_eq_false_iff_ne]; omega
 have hi1 : (i : Int) + 1 ≤ l.length := by omega
 have hi0 : 0 ≤ (i : Int) := Int.natCast_nonneg _
 have hn' : (l.length : Int) ≤ cap := by omega
 have hcap' : (cap : Int) ≤ 9223372036854775807 := by omega
 go_enter Tryz.func170, Tryz.ntmps170
 go_upto_region 5 with fail
 haveI : Nonempty (Wd (fun _ : World => True)) := ⟨⟨w, trivial⟩⟩
 have hib : i + 1 ≤ l.length := by omega
 have HCUT := jh (show ∀ n, i + 1 + n = l.length → ∀ u ∈ (cl.drop ((i + 1) * 18)).take (n * 18), u.oneCell' = true from fun n hn1 u hu => by
  refine HX.out.2.2.1.ones u ?_
  rw [← HX.out.2.1]
  rw [List.take_drop] at hu
  have e : (i + 1) * 18 + n * 18 = l.length * RecR.size := by rw [← Nat.add_mul, hn1]; rfl
  rw [e] at hu
  exact List.mem_of_mem_drop hu)
 have HC := jh (show ∀ n, i + 1 + n = l.length → ∀ z : List Value, z.length = 18 → _ from fun n hn1 z hz => del_cells (cl := cl) (cap := cap) (i := i) (n := n) (z := z) hcl (by omega) hz)
 have HE := jh (flat_erase HX.out.2.2.1 hi)
 by_cases hck : cap = i + 1
 case pos =>
  subst hck
  refine wp_region_mix (.seg [0, 1, 2, 3, 4, 5] 6 (.leaf [7])) (fun w' => ∃ d : Wd (fun _ : World => True), w' = d.w) (by kernel_rfl) (by kernel_rfl) (fun _ _ d _ _ h => by cases d <;> exact h) (ClsW.mk (D := fun _ => True) trivial) ?_
  unfold wpMix; simp only [pick, j1, j2, j3, j4]
  (repeat (show wpQuiet _ _ _ _ (_ :: _) _; go_big_quiet_step (fail))); refine qn ?_
  obtain ⟨i0, e1, e2, e3, e4⟩ := info_parts rec_info
  refine wpList_cut_append rfl (.tmp 22) (.tmp 25) _ rfl 43 i0 Tryz.underlying48 e1 hBk.drew i 0 _ (i + 1) _ rfl _ rfl (fun hp => by first | omega | rw [e3]) (by omega) (by rw [e3]; omega) (by rw [e3]; omega) (by rw [e3]; exact HCUT.out 0 (by omega)) ?_
  intro w2 hB2 hO2
  rw [e3] at hB2
  have hO2 : Only (fun q => q = g) w w2 := (Only.of_below (jb _ w).drew).tr hO2
  go_simp
  dsimp only [wpList, SegQ]
  refine ⟨fun w' => ∃ d : Wd (fun _ : World => True), w' = d.w, ClsW.mk (D := fun _ => True) trivial, fun _ h => h, ?_⟩
  unfold wpMix; simp only [pick, j1, j2, j3, j4]
  (repeat (show wpQuiet _ _ _ _ (_ :: _) _; go_big_quiet_step (fail))); refine qn ?_
  have hlast : i + 0 + 1 = l.length := by omega
  have HL := jh (ja hB2 hO2)
  clear e1 e2 e3 e4
  obtain ⟨hC1, hC2, hC3⟩ := HC.out 0 (by omega) (List.replicate 18 (.int .i64 0)) rfl
  obtain ⟨w3, zs, hcr, hz, hB3, hO3⟩ := run_clear_tail (P := Tryz.prog) 48 0 43 _ Tryz.underlying48 zero_rec (by decide) hB2 (i * 18) (l.length - i) (l.length - i) (by omega) (by have h1 := hC1; unfold delC at h1; rw [h1]; show _ + _ * 18 ≤ _; omega)
  have HZ := jh (ja hz (ja hB3 hO3))
  clear hz hB3 hO3 hC1 hC2 hC3 hB2 hO2
  go_wp2_with fail
  go_ret
  obtain ⟨hz, hB3, hO3⟩ := HZ.out
  have hO3 := HL.out.2.tr hO3
  have e1 : l.length - i = 1 := by omega
  rw [e1] at hz hB3
  have hz18 : zs.length = 18 := hz
  obtain ⟨q1, q2, q3⟩ := HC.out 0 (by omega) zs hz18
  have hll : (l.eraseIdx i).length = i + 0 := by rw [List.length_eraseIdx, if_pos hi]; omega
  have hxs : cl.take ((i + 1 + 0) * 18) = xs := by rw [← HX.out.2.1, show i + 1 + 0 = l.length from by omega]; rfl
  rw [hxs] at q3
  have hB3' : Blk w3 g 43 ((delC cl i 0).take ((i + 0) * 18) ++ zs ++ (delC cl i 0).drop ((i + 0) * 18 + 18)) := hB3
  have O := own_of_blk (R := RecR) (base := B) (S := S) (cap := i + 1) (l := l.eraseIdx i) hB3' q2 (by rw [hll]; omega) (by omega) HX.out.2.2.2 (xs := xs.take (i * 18) ++ xs.drop ((i + 1) * 18)) (by rw [hll]; exact q3)
   ((HE.out.same (Same.of_only hO3 fun k hk e => hk.2 (by rw [e]; rfl))).mono fun k hk _ => ⟨hk.1, fun e => hk.2 (by rw [e]; rfl)⟩)
  rw [hll] at O
  exact ⟨_, rfl, O, hO3.mono fun k e => by rw [e]; rfl⟩
 case neg =>
  skip
  refine wp_region_mix (.seg [0, 1, 2, 3, 4, 5] 6 (.leaf [7])) (fun w' => ∃ d : Wd (fun _ : World => True), w' = d.w) (by kernel_rfl) (by kernel_rfl) (fun _ _ d _ _ h => by cases d <;> exact h) (ClsW.mk (D := fun _ => True) trivial) ?_
  unfold wpMix; simp only [pick, j1, j2, j3, j4]
  (repeat (show wpQuiet _ _ _ _ (_ :: _) _; go_big_quiet_step (fail))); refine qn ?_
  obtain ⟨i0, e1, e2, e3, e4⟩ := info_parts rec_info
  refine wpList_cut_append rfl (.tmp 22) (.tmp 25) _ rfl 43 i0 Tryz.underlying48 e1 hBk.drew i (l.length - (i + 1)) _ (i + 1) _ rfl _ rfl (fun hp => by first | omega | rw [e3]) (by omega) (by rw [e3]; omega) (by rw [e3]; omega) (by rw [e3]; exact HCUT.out (l.length - (i + 1)) (by omega)) ?_
  intro w2 hB2 hO2
  rw [e3] at hB2
  have hO2 : Only (fun q => q = g) w w2 := (Only.of_below (jb _ w).drew).tr hO2
  go_simp
  dsimp only [wpList, SegQ]
  refine ⟨fun w' => ∃ d : Wd (fun _ : World => True), w' = d.w, ClsW.mk (D := fun _ => True) trivial, fun _ h => h, ?_⟩
  unfold wpMix; simp only [pick, j1, j2, j3, j4]
  (repeat (show wpQuiet _ _ _ _ (_ :: _) _; go_big_quiet_step (fail))); refine qn ?_
  have hlast : i + (l.length - (i + 1)) + 1 = l.length := by omega
  have HL := jh (ja hB2 hO2)
  clear e1 e2 e3 e4
  obtain ⟨hC1, hC2, hC3⟩ := HC.out (l.length - (i + 1)) (by omega) (List.replicate 18 (.int .i64 0)) rfl
  obtain ⟨w3, zs, hcr, hz, hB3, hO3⟩ := run_clear_tail (P := Tryz.prog) 48 0 43 _ Tryz.underlying48 zero_rec (by decide) hB2 ((i + (l.length - (i + 1))) * 18) (l.length - (i + (l.length - (i + 1)))) (cap - (i + (l.length - (i + 1)))) (by omega) (by have h1 := hC1; unfold delC at h1; rw [h1]; show _ + _ * 18 ≤ _; omega)
  have HZ := jh (ja hz (ja hB3 hO3))
  clear hz hB3 hO3 hC1 hC2 hC3 hB2 hO2
  go_wp2_with fail
  go_ret
  obtain ⟨hz, hB3, hO3⟩ := HZ.out
  have hO3 := HL.out.2.tr hO3
  have e1 : l.length - (i + (l.length - (i + 1))) = 1 := by omega
  rw [e1] at hz hB3
  have hz18 : zs.length = 18 := hz
  obtain ⟨q1, q2, q3⟩ := HC.out (l.length - (i + 1)) (by omega) zs hz18
  have hll : (l.eraseIdx i).length = i + (l.length - (i + 1)) := by rw [List.length_eraseIdx, if_pos hi]; omega
  have hxs : cl.take ((i + 1 + (l.length - (i + 1))) * 18) = xs := by rw [← HX.out.2.1, show i + 1 + (l.length - (i + 1)) = l.length from by omega]; rfl
  rw [hxs] at q3
  have hB3' : Blk w3 g 43 ((delC cl i (l.length - (i + 1))).take ((i + (l.length - (i + 1))) * 18) ++ zs ++ (delC cl i (l.length - (i + 1))).drop ((i + (l.length - (i + 1))) * 18 + 18)) := hB3
  have O := own_of_blk (R := RecR) (base := B) (S := S) (cap := cap) (l := l.eraseIdx i) hB3' q2 (by rw [hll]; omega) (by omega) HX.out.2.2.2 (xs := xs.take (i * 18) ++ xs.drop ((i + 1) * 18)) (by rw [hll]; exact q3)
   ((HE.out.same (Same.of_only hO3 fun k hk e => hk.2 (by rw [e]; rfl))).mono fun k hk _ => ⟨hk.1, fun e => hk.2 (by rw [e]; rfl)⟩)
  rw [hll] at O
  exact ⟨_, rfl, O, hO3.mono fun k e => by rw [e]; rfl⟩
end Go.Proofs.YtpgocpodhamibaaGreatDoor
namespace Go.Proofs.YtpgocpodhamibaaGreatDoor
open Go.RowKit
def relB (r f : Rec) : Bool := decide (f.range.first = r.range.first) && decide (f.range.last = r.range.last)
set_option maxRecDepth 20000 in
set_option maxHeartbeats 1600000 in
theorem relHas_any (b : Nat) (r : Rec) (nA pA sA : Option Addr) (nc pc sc : Nat) (f : Rec) (nA' pA' sA' : Option Addr) (nc' pc' sc' : Nat) (w : World) (hb : Blk w b 43 (r.cells nA nc pA pc sA sc)) :
 Calls Tryz.prog 168 #[.agg (f.cells nA' nc' pA' pc' sA' sc').toArray, .pointer (some ⟨b, 0, none⟩)] w fun e w' => e = .returned (.bool (relB r f)) ∧ Below w.heap.size w w' := by
 have hb1 := (jb w.heap.size w).al (.cells (f.cells nA' nc' pA' pc' sA' sc').toArray 43)
 have B0 := Blk.new w 43 (f.cells nA' nc' pA' pc' sA' sc')
 have BR := hb.ext hb1
 clear hb
 go_enter Tryz.func168, Tryz.ntmps168
 go_upto_region 1 with fail
 refine forget (M := fun W => Code.wp _ _ _ _ W) (fun W => Below w.heap.size w W ∧ Blk W w.heap.size 43 (f.cells nA' nc' pA' pc' sA' sc') ∧ Blk W b 43 (r.cells nA nc pA pc sA sc)) ⟨hb1, B0, BR⟩ ?_
 clear B0 hb1 BR
 rintro w1 ⟨hb1, B0, BR⟩
 have x13 : w1.cell? ⟨w.heap.size, 13, none⟩ = some (.int .i64 f.range.first) := B0.cell 13
 have x14 : w1.cell? ⟨w.heap.size, 14, none⟩ = some (.int .i64 f.range.last) := B0.cell 14
 have y13 : w1.cell? ⟨b, 13, none⟩ = some (.int .i64 r.range.first) := BR.cell 13
 have y14 : w1.cell? ⟨b, 14, none⟩ = some (.int .i64 r.range.last) := BR.cell 14
 have HB := jh hb1
 clear B0 hb1 BR
 have hcase : f.range.first ≠ r.range.first ∨ (f.range.first = r.range.first ∧ f.range.last ≠ r.range.last) ∨ (f.range.first = r.range.first ∧ f.range.last = r.range.last) := by omega
 rcases hcase with h1 | ⟨h1, h2⟩ | ⟨h1, h2⟩
 ·have HE := jh (show relB r f = false from by simp [relB, h1])
  have g1 : (f.range.first == r.range.first) = false := beq_eq_false_iff_ne.2 h1
  clear h1
  go_wp2_with fail
  go_ret
  exact ⟨ret_bool HE.out.symm, HB.out⟩
 ·have HE := jh (show relB r f = false from by simp [relB, h2])
  have g1 : (f.range.first == r.range.first) = true := beq_iff_eq.2 h1
  have g2 : (f.range.last == r.range.last) = false := beq_eq_false_iff_ne.2 h2
  clear h1 h2
  go_wp2_with fail
  go_ret
  exact ⟨ret_bool HE.out.symm, HB.out⟩
 ·have HE := jh (show relB r f = true from by simp [relB, h1, h2])
  have g1 : (f.range.first == r.range.first) = true := beq_iff_eq.2 h1
  have g2 : (f.range.last == r.range.last) = true := beq_iff_eq.2 h2
  clear h1 h2
  go_wp2_with fail
  go_ret
  exact ⟨ret_bool HE.out.symm, HB.out⟩
theorem enters_release : ∀ args w, (callFunc 168 args).run Tryz.prog w = .ok (.enter 168 args) w := enters_of Tryz.func168 (by kernel_rfl) rfl
set_option maxRecDepth 20000 in
set_option maxHeartbeats 6400000 in
theorem release_any (g : Nat) (s : St) (r : Rec) (nA pA sA : Option Addr) (nc pc sc : Nat) (P Q : Nat → Prop) (w : World) (h : StAt w P g s) (hg : ¬ P g) (hS : Fit s)
 (hr : RecAt w Q r nA nc pA pc sA sc) (hrl : s.ring.length ≤ 300) (hfl : (freshT s.table).length ≤ 40000) (hT : Tabs w) (h2 : 2 ≤ g) :
 Calls Tryz.prog 80 #[ptrV g, .agg (r.cells nA nc pA pc sA sc).toArray] w (StOut w P g (releaseS s r)) := by
 have hgl := h.lt
 have HH := jh (ja h (ja hg (ja hS (ja hr hT))))
 clear h hg hS hr hT
 have hb1 := (jb w.heap.size w).al (.cells (r.cells nA nc pA pc sA sc).toArray 43)
 have B0 := Blk.new w 43 (r.cells nA nc pA pc sA sc)
 have hs1 : (w.alloc (.cells (r.cells nA nc pA pc sA sc).toArray 43)).heap.size = w.heap.size + 1 := by simp
 unfold ptrV
 go_enter Tryz.func80, Tryz.ntmps80
 go_upto_region 1 with fail
 refine forget (M := fun W => Code.wp _ _ _ _ W) (fun W => Below w.heap.size w W ∧ Blk W w.heap.size 43 (r.cells nA nc pA pc sA sc) ∧ W.heap.size = w.heap.size + 1) ⟨hb1, B0, hs1⟩ ?_
 clear B0 hb1 hs1
 rintro w1 ⟨hb1, B0, hs1⟩
 obtain ⟨v, hB, hI⟩ := HH.out.1
 obtain ⟨Af, cf, hvf, hcf1, hcf2, hrowf⟩ := hI.frozen
 have hvl : v.frozen = .slice Af s.frozen.length cf := by injection hvf
 have y9 : w1.cell? ⟨g, 9, none⟩ = some v.frozen := (hB.ext hb1).cell 9
 rw [hvl] at y9
 have HSP := jh (show releaseS s r = (if idxI (relB r) s.frozen < 0 then (s, 4) else if r.range.owner = s.self ∨ r.range.owner < 1 ∨ s.nodes < r.range.owner ∨ r.range.epoch ≤ ((s.frozen.map Rec.range).getD (idxI (relB r) s.frozen).toNat zeroRange).epoch then (s, 1) else if (setR s.ring r.range).2 ≠ 0 then (s, (setR s.ring r.range).2) else ({ s with ring := (setR s.ring r.range).1, frozen := s.frozen.eraseIdx (idxI (relB r) s.frozen).toNat, table := dropT (freshT s.table) r.range }, 0)) from rfl)
 have C1 := idxF_Rec 168 [.pointer (some ⟨w.heap.size, 0, none⟩)] (relB r) enters_release Af cf s.frozen P w1 (hrowf.ext hb1) (by have := HH.out.2.2.1.frozen; omega) (fun a cs W' _ ha hb' => by
  obtain ⟨nA', nc', pA', pc', sA', sc', rfl, _⟩ := rec_rep.1 ha
  exact relHas_any w.heap.size r nA pA sA nc pc sc a nA' pA' sA' nc' pc' sc' W' (B0.ext hb'))
 have hbd := idxI_bd (relB r) s.frozen
 generalize idxI (relB r) s.frozen = i at *
 have HV := jh (ja hB (ja hI (ja hvl (ja hrowf hcf2))))
 have H1 := jh (ja hb1 (ja B0 hs1))
 clear hB hI hvf hcf1 hcf2 hrowf hvl hb1 B0 hs1
 go_wp2_with fail
 refine C1.mono ?_
 clear C1 y9
 rintro e w2 ⟨rfl, hb2⟩
 have HB2 := jh (ja (H1.out.1.tr hb2) (H1.out.2.1.ext hb2))
 clear hb2
 by_cases hi : i < 0
 ·have HE := jh (HSP.out.trans (if_pos hi))
  go_wp2_with fail
  go_ret
  unfold StOut
  rw [HE.out]
  obtain ⟨v', a1, a2⟩ := HH.out.1
  exact ⟨rfl, ⟨v', a1.ext HB2.out.1, (a2.same (Same.of_below HB2.out.1)).mono fun k hk => .inl hk⟩, Only.of_below HB2.out.1⟩
 have HE := jh (HSP.out.trans (if_neg hi))
 obtain ⟨k, rfl⟩ : ∃ k : Nat, i = k := ⟨i.toNat, by omega⟩
 have hkl : k < s.frozen.length := by omega
 have hlk := List.getElem?_eq_getElem hkl
 obtain ⟨bb, o, mA, mc, qA, qc, tA, tc, hAf, hbw, hrec, hcs⟩ := recs_at (HV.out.2.2.2.1.ext HB2.out.1) hlk
 have hgd : (s.frozen.map Rec.range).getD ((k : Int)).toNat zeroRange = s.frozen[k].range := by simp [hkl]
 rw [hgd, Int.toNat_natCast] at HE
 generalize s.frozen[k] = f at *
 have hi' : decide ((k : Int) < 0) = false := decide_eq_false hi
 have hkl' : (k : Int) < s.frozen.length := by omega
 have hk0 : 0 ≤ ((k : Nat) : Int) := Int.natCast_nonneg _
 have x16 : w2.cell? ⟨bb, o + k * 18 + 16, none⟩ = some (.int .i64 f.range.epoch) := hcs 16 _ rfl
 have z15 : w2.cell? ⟨w.heap.size, 15, none⟩ = some (.int .i64 r.range.owner) := HB2.out.2.cell 15
 have z16 : w2.cell? ⟨w.heap.size, 16, none⟩ = some (.int .i64 r.range.epoch) := HB2.out.2.cell 16
 have y0 : w2.cell? ⟨g, 0, none⟩ = some (.int .i64 s.self) := (HV.out.1.ext HB2.out.1).cell 0
 have y1 : w2.cell? ⟨g, 1, none⟩ = some (.int .i64 s.nodes) := (HV.out.1.ext HB2.out.1).cell 1
 have y9 : w2.cell? ⟨g, 9, none⟩ = some v.frozen := (HV.out.1.ext HB2.out.1).cell 9
 rw [HV.out.2.2.1, hAf] at y9
 have HAF := jh hAf
 clear hgd hlk hrec hcs hi hAf hbd
 go_upto_region 4 with fail
 have hcase : r.range.owner = s.self ∨ (r.range.owner ≠ s.self ∧ r.range.owner < 1) ∨ (r.range.owner ≠ s.self ∧ ¬ r.range.owner < 1 ∧ s.nodes < r.range.owner) ∨ (r.range.owner ≠ s.self ∧ ¬ r.range.owner < 1 ∧ ¬ s.nodes < r.range.owner ∧ r.range.epoch ≤ f.range.epoch) ∨ (r.range.owner ≠ s.self ∧ ¬ r.range.owner < 1 ∧ ¬ s.nodes < r.range.owner ∧ ¬ r.range.epoch ≤ f.range.epoch) := by omega
 rcases hcase with h1 | ⟨h1, h3⟩ | ⟨h1, h3, h4⟩ | ⟨h1, h3, h4, h5⟩ | ⟨h1, h3, h4, h5⟩
 ·have HE2 := jh (HE.out.trans (if_pos (.inl h1)))
  have g1 : (r.range.owner == s.self) = true := beq_iff_eq.2 h1
  go_quiet (fail)
  go_wp2_with fail
  go_ret
  unfold StOut
  rw [HE2.out]
  obtain ⟨v', a1, a2⟩ := HH.out.1
  exact ⟨rfl, ⟨v', a1.ext (HB2.out.1.drewN _), (a2.same (Same.of_below (HB2.out.1.drewN _))).mono fun k hk => .inl hk⟩, Only.of_below (HB2.out.1.drewN _)⟩
 ·have HE2 := jh (HE.out.trans (if_pos (.inr (.inl h3))))
  have g1 : (r.range.owner == s.self) = false := beq_eq_false_iff_ne.2 h1
  go_quiet (fail)
  go_wp2_with fail
  go_ret
  unfold StOut
  rw [HE2.out]
  obtain ⟨v', a1, a2⟩ := HH.out.1
  exact ⟨rfl, ⟨v', a1.ext (HB2.out.1.drewN _), (a2.same (Same.of_below (HB2.out.1.drewN _))).mono fun k hk => .inl hk⟩, Only.of_below (HB2.out.1.drewN _)⟩
 ·have HE2 := jh (HE.out.trans (if_pos (.inr (.inr (.inl h4)))))
  have g1 : (r.range.owner == s.self) = false := beq_eq_false_iff_ne.2 h1
  have g3 := decide_eq_false h3
  go_quiet (fail)
  go_wp2_with fail
  go_ret
  unfold StOut
  rw [HE2.out]
  obtain ⟨v', a1, a2⟩ := HH.out.1
  exact ⟨rfl, ⟨v', a1.ext (HB2.out.1.drewN _), (a2.same (Same.of_below (HB2.out.1.drewN _))).mono fun k hk => .inl hk⟩, Only.of_below (HB2.out.1.drewN _)⟩
 ·have HE2 := jh (HE.out.trans (if_pos (.inr (.inr (.inr h5)))))
  have g1 : (r.range.owner == s.self) = false := beq_eq_false_iff_ne.2 h1
  have g3 := decide_eq_false h3
  have g4 : decide (s.nodes < r.range.owner) = false := decide_eq_false h4
  go_quiet (fail)
  go_wp2_with fail
  go_ret
  unfold StOut
  rw [HE2.out]
  obtain ⟨v', a1, a2⟩ := HH.out.1
  exact ⟨rfl, ⟨v', a1.ext (HB2.out.1.drewN _), (a2.same (Same.of_below (HB2.out.1.drewN _))).mono fun k hk => .inl hk⟩, Only.of_below (HB2.out.1.drewN _)⟩
 have HE2 := jh (HE.out.trans (if_neg (by omega)))
 have g1 : (r.range.owner == s.self) = false := beq_eq_false_iff_ne.2 h1
 have g3 := decide_eq_false h3
 have g4 : decide (s.nodes < r.range.owner) = false := decide_eq_false h4
 have g5 := decide_eq_false h5
 clear h1 h3 h4 h5
 go_quiet (fail)
 clear x16 z15 z16 y0 y1 y9 g1 g3 g4 g5
 have hb3 : Below w2.heap.size w2 (w2.drewN nq) := (jb _ _).drewN _
 generalize hw3 : w2.drewN nq = w3 at *
 have HB3 := jh (ja (HB2.out.1.tr hb3) (HB2.out.2.ext hb3))
 clear hw3 hb3
 obtain ⟨Ar, cr, hvr, hc1, hc2, hrow⟩ := HV.out.2.1.ring
 have hvrl : v.ring = .slice Ar s.ring.length cr := by injection hvr
 go_upto_region 6 with fail
 have y4 : w3.cell? ⟨g, 4, none⟩ = some v.ring := (HV.out.1.ext HB3.out.1).cell 4
 rw [hvrl] at y4
 have y4 := On.cell y4
 have z13 := On.cell (HB3.out.2.cell 13 : w3.cell? ⟨w.heap.size, 13, none⟩ = some (.int .i64 r.range.first))
 have z14 := On.cell (HB3.out.2.cell 14 : w3.cell? ⟨w.heap.size, 14, none⟩ = some (.int .i64 r.range.last))
 have z15 := On.cell (HB3.out.2.cell 15 : w3.cell? ⟨w.heap.size, 15, none⟩ = some (.int .i64 r.range.owner))
 have z16 := On.cell (HB3.out.2.cell 16 : w3.cell? ⟨w.heap.size, 16, none⟩ = some (.int .i64 r.range.epoch))
 have hlo := jb w3.heap.size w3
 have CS := setRing_any Ar cr s.ring r.range P w3.drew (hrow.ext HB3.out.1.drew) (by omega) HH.out.2.2.2.1.range
 unfold GotSplit at CS
 generalize setR s.ring r.range = sp at CS HE2
 obtain ⟨ring', code⟩ := sp
 dsimp only at CS HE2
 have HE2 := jh HE2.out
 clear hvr hvrl hc1 hc2 hrow
 refine wp_region_mix (.seg [0, 1, 2, 3, 4, 5] 6 (.leaf [7, 8, 9, 10, 11])) (fun w' => ∃ d : Wd (On w3), w' = d.w) (by kernel_rfl) (by kernel_rfl) (fun _ _ d _ _ h => by cases d <;> exact h) (ClsW.mk hlo.drew) ?_
 unfold wpMix; simp only [pick, j1, j2, j3, j4]
 (repeat (show wpQuiet _ _ _ _ (_ :: _) _; go_big_quiet_step (fail))); refine qn ?_
 go_wp2_with fail
 refine CS.mono ?_
 clear CS
 rintro e w4 ⟨⟨v4, rfl, ho4⟩, hb4'⟩
 have hb4 : Below w3.heap.size w3 w4 := hlo.drew.tr hb4'
 obtain ⟨A4, c4, hv4, hc41, hc42⟩ := ho4.form
 subst hv4
 have HO4 := jh (ja ho4 (ja hc41 hc42))
 have HB4 := jh (ja (HB3.out.1.tr hb4) (HB3.out.2.ext hb4))
 clear ho4 hb4' hc41 hc42
 go_wp2_with fail
 (dsimp only [wpList, SegQ]; refine ⟨fun w' => ∃ d : Wd (On w3), w' = d.w, ClsW.mk (hb4), fun _ h => h, ?_⟩; unfold wpMix; simp only [pick, j1, j2, j3, j4]; (repeat (show wpQuiet _ _ _ _ (_ :: _) _; go_big_quiet_step (fail))); refine qn ?_)
 clear y4 z13 z14 z15 z16 hlo hb4
 by_cases hcode : code = 0
 rotate_left
 ·have HE3 := jh (HE2.out.trans (if_pos hcode))
  have hc1 : (code != 0) = true := bne_iff_ne.2 hcode
  clear hcode
  go_wp2_with fail
  go_ret
  unfold StOut
  rw [HE3.out]
  obtain ⟨v', a1, a2⟩ := HH.out.1
  exact ⟨rfl, ⟨v', a1.ext HB4.out.1, (a2.same (Same.of_below HB4.out.1)).mono fun k hk => .inl hk⟩, Only.of_below HB4.out.1⟩
 have HE3 := jh (HE2.out.trans (if_neg (by simp [hcode])))
 subst hcode
 have y9 : w4.cell? ⟨g, 9, none⟩ = some v.frozen := (HV.out.1.ext HB4.out.1).cell 9
 rw [HV.out.2.2.1] at y9
 have CC := clone_Rec Af cf s.frozen P w4 (HV.out.2.2.2.1.ext HB4.out.1) (by have := HH.out.2.2.1.frozen; omega)
 unfold GotOwn at CC
 go_wp2_with fail
 refine CC.mono ?_
 clear CC y9
 rintro e w5 ⟨⟨v5, rfl, ho5⟩, hb5⟩
 have CD := delete_any v5 s.frozen k w4.heap.size _ w5 ho5 hkl HH.out.2.2.1.frozen
 have hz4 := HB4.out.1.size
 have HB5 := jh hb5
 have HO5 := jh (ja ho5 (ja (HB4.out.1.tr hb5) (HB4.out.2.ext hb5)))
 clear ho5 hb5
 go_wp2_with fail
 have hwr : wrap64 ((k : Int) + 1) = (k : Int) + 1 := wrap_in _ (by have := HH.out.2.2.1.frozen; omega)
 rw [hwr]
 refine CD.mono ?_
 clear CD hwr
 rintro e w6 ⟨v6, rfl, ho6, hO6⟩
 have hOn : ∀ q, v5.ownBlock = some q → w4.heap.size ≤ q := fun q hq => (HO5.out.1.lt q hq).1
 have hg6 : ¬ v5.ownBlock = some g := fun e => by have := hOn g e; omega
 have hBg6 := (HV.out.1.ext HO5.out.2.1).only hO6 hg6
 have hBx6 := HO5.out.2.2.only hO6 (fun e => by have := hOn _ e; have := HB4.out.2.lt; omega)
 have h46 : Below w.heap.size w w6 := HO5.out.2.1.trans (hO6.low (fun q e => by have := hOn q e; omega) HO5.out.2.1.size)
 have y4 : w6.cell? ⟨g, 4, none⟩ = some v.ring := hBg6.cell 4
 have f4 := hBg6.frozen 4
 have y9 : w6.cell? ⟨g, 9, none⟩ = some v.frozen := hBg6.cell 9
 have f9 := hBg6.frozen 9
 obtain ⟨A6, c6, hv6, hc61, hc62⟩ := ho6.form
 subst hv6
 have hrow4 := (((HO4.out.1.row' range_plain (P := fun k => w.heap.size ≤ k ∧ k < w4.heap.size) fun q hq => by
  have h1 := HO4.out.1.lt q hq
  have h2 := HB3.out.1.size
  have h3 : w3.drew.heap.size = w3.heap.size := rfl
  omega).same (Same.of_below HB5.out) HB5.out.size).same (w' := w6) (Same.of_only hO6 fun k hk e => by have := hOn k e; have := hk.2; omega) hO6.size)
 have hrow6 := ho6.row (fun q hq => .inl hq)
 have H6 := jh (ja hBg6 (ja hBx6 (ja h46 (ja hc61 (ja hc62 (ja hrow4 hrow6))))))
 have hz6 := h46.size
 have hlf : ((s.frozen.eraseIdx k).length : Nat) = (s.frozen.eraseIdx k).length := rfl
 generalize hfz : s.frozen.eraseIdx k = frozen' at *
 clear hlf ho6 hBg6 hBx6 h46 hc61 hc62 hO6 hrow4 hrow6 hOn hg6
 go_upto_region 10 with fail
 have hI6 := HV.out.2.1.same (Same.of_below H6.out.2.2.1)
 have hO7 : Only (· = g) w6 (w6.setCell ⟨g, 4, none⟩ (.slice A4 ring'.length c4)) := Only.set_ (F := (· = g)) rfl _
 have hO8 : Only (· = g) w6 ((w6.setCell ⟨g, 4, none⟩ (.slice A4 ring'.length c4)).setCell ⟨g, 9, none⟩ (.slice A6 frozen'.length c6)) := hO7.tr (Only.set_ (F := (· = g)) rfl _)
 have hI8 := (hI6.same (Same.of_only hO8 fun k hk e => HH.out.2.1 (e ▸ hk))).mono (Q := fun k => P k ∨ w.heap.size ≤ k) fun k hk => .inl hk
 have hst8 : StAt ((w6.setCell ⟨g, 4, none⟩ (.slice A4 ring'.length c4)).setCell ⟨g, 9, none⟩ (.slice A6 frozen'.length c6)) (fun k => P k ∨ w.heap.size ≤ k) g { s with ring := ring', frozen := frozen' } := by
  refine ⟨{ v with ring := .slice A4 ring'.length c4, frozen := .slice A6 frozen'.length c6 }, (H6.out.1.set_ 4 _).set_ 9 _, { hI8 with ring := ⟨A4, c4, rfl, HO4.out.2.1, HO4.out.2.2, ?_⟩, frozen := ⟨A6, c6, rfl, H6.out.2.2.2.1, H6.out.2.2.2.2.1, ?_⟩ }⟩
  ·exact (H6.out.2.2.2.2.2.1.same (Same.of_only hO8 fun k hk e => by have e' : k = g := e; have := hk.1; omega) hO8.size).mono fun k hk _ => .inr hk.1
  ·refine (H6.out.2.2.2.2.2.2.same (Same.of_only hO8 fun k hk e => ?_) hO8.size).mono fun k hk _ => ?_
   ·have e' : k = g := e
    rcases hk with h | h
    ·omega
    ·exact HH.out.2.1 (e' ▸ h)
   ·rcases hk with h | h
    ·exact .inr (by omega)
    ·exact .inl h
 have hBx8 := H6.out.2.1.only hO8 (fun e => by have e' : w.heap.size = g := e; omega)
 have hT8 := (HH.out.2.2.2.2.below H6.out.2.2.1).only hO8 (by intro e; have e' : 0 = g := e; omega) (by intro e; have e' : 1 = g := e; omega)
 have hz8 := hO8.size
 have hOw8 : Only (· = g) w _ := (Only.of_below H6.out.2.2.1).tr hO8
 generalize hw8 : ((w6.setCell ⟨g, 4, none⟩ (.slice A4 ring'.length c4)).setCell ⟨g, 9, none⟩ (.slice A6 frozen'.length c6)) = w8 at *
 have hst8 : StAt w8 (fun k => (P k ∨ w.heap.size ≤ k) ∧ k < w8.heap.size) g { s with ring := ring', frozen := frozen' } := by obtain ⟨v', a1, a2⟩ := hst8; exact ⟨v', a1, a2.low⟩
 have CF := fresh_any g { s with ring := ring', frozen := frozen' } (fun k => (P k ∨ w.heap.size ≤ k) ∧ k < w8.heap.size) w8 hst8 (fun h => by rcases h.1 with h | h; exact HH.out.2.1 h; omega) HH.out.2.2.1.fair.len HH.out.2.2.1.fair.each HH.out.2.2.1.fair.put hT8 (by omega)
 unfold FreshOut ptrV at CF
 have H8 := jh (ja hst8 (ja hBx8 (ja hT8 hOw8)))
 have hzz : w.heap.size < w8.heap.size := hBx8.lt
 clear hw8 hI6 hI8 hO7 hO8 hst8 hBx8 hT8 hOw8 y4 f4 y9 f9
 go_wp2_with fail
 refine CF.mono ?_
 clear CF
 rintro e w9 ⟨rfl, ⟨v9, hB9, hT9, hR9⟩, hO9, _⟩
 have hz9 := hO9.size
 have hBx9 := H8.out.2.1.only hO9 (fun e => by have e' : w.heap.size = g := e; omega)
 have H9 := jh (ja hT9 (ja hR9 (H8.out.2.2.2.tr hO9)))
 have hD : InD g w.heap.size { s with ring := ring', frozen := frozen', table := freshT s.table } v9 r nA nc pA pc sA sc w9 := ⟨hB9, hBx9⟩
 clear hB9 hT9 hR9 hO9 hBx9
 haveI : Nonempty (Wd (InD g w.heap.size { s with ring := ring', frozen := frozen', table := freshT s.table } v9 r nA nc pA pc sA sc)) := ⟨⟨_, hD⟩⟩
 have y5 := InD.c5 (g := g) (nb := w.heap.size) (s := { s with ring := ring', frozen := frozen', table := freshT s.table }) (v := v9) (r := r) (nA := nA) (nc := nc) (pA := pA) (pc := pc) (sA := sA) (sc := sc)
 have z13 := InD.r13 (g := g) (nb := w.heap.size) (s := { s with ring := ring', frozen := frozen', table := freshT s.table }) (v := v9) (r := r) (nA := nA) (nc := nc) (pA := pA) (pc := pc) (sA := sA) (sc := sc)
 have z14 := InD.r14 (g := g) (nb := w.heap.size) (s := { s with ring := ring', frozen := frozen', table := freshT s.table }) (v := v9) (r := r) (nA := nA) (nc := nc) (pA := pA) (pc := pc) (sA := sA) (sc := sc)
 have z15 := InD.r15 (g := g) (nb := w.heap.size) (s := { s with ring := ring', frozen := frozen', table := freshT s.table }) (v := v9) (r := r) (nA := nA) (nc := nc) (pA := pA) (pc := pc) (sA := sA) (sc := sc)
 have z16 := InD.r16 (g := g) (nb := w.heap.size) (s := { s with ring := ring', frozen := frozen', table := freshT s.table }) (v := v9) (r := r) (nA := nA) (nc := nc) (pA := pA) (pc := pc) (sA := sA) (sc := sc)
 go_upto_region 11 with fail
 refine wp_region_mix (.seg [0, 1, 2, 3, 4, 5] 6 (.leaf [])) (fun w' => ∃ d : Wd (InD g w.heap.size { s with ring := ring', frozen := frozen', table := freshT s.table } v9 r nA nc pA pc sA sc), w' = d.w) (by kernel_rfl) (by kernel_rfl) (fun _ _ d _ _ h => by cases d <;> exact h) (ClsW.mk (D := InD g w.heap.size { s with ring := ring', frozen := frozen', table := freshT s.table } v9 r nA nc pA pc sA sc) hD.drew) ?_
 unfold wpMix; simp only [pick, j1, j2, j3, j4]
 (repeat (show wpQuiet _ _ _ _ (_ :: _) _; go_big_quiet_step (fail))); refine qn ?_
 have CD := drop_any v9.tb (freshT s.table) r.range (fun k => w8.heap.size ≤ k ∧ k < w9.heap.size) w9.drew (H9.out.1.ext (jb _ _).drew) hfl
 unfold ptrV at CD
 go_wp2_with fail
 refine CD.mono ?_
 clear CD
 rintro e w10 ⟨⟨n10, rfl⟩, hT10, hO10⟩
 have hz10 := hO10.size
 have hzd : w9.drew.heap.size = w9.heap.size := rfl
 have hD10 := hD.drew.only hO10 (fun h => by have := h.1; omega) (fun h => by have := h.1; omega)
 have hO9d : Only (fun k => w8.heap.size ≤ k ∧ k < w9.heap.size) w9 w10 := (Only.of_below (jb _ w9).drew).trans hO10 fun q hq h => h.1
 have H10 := jh (ja hT10 (ja hO9d hD10.st))
 clear hT10 hO10 hO9d
 go_wp2_with fail
 dsimp only [wpList, SegQ]
 refine ⟨fun w' => ∃ d : Wd (InD g w.heap.size { s with ring := ring', frozen := frozen', table := freshT s.table } v9 r nA nc pA pc sA sc), w' = d.w, ClsW.mk (D := InD g w.heap.size { s with ring := ring', frozen := frozen', table := freshT s.table } v9 r nA nc pA pc sA sc) hD10, fun _ h => h, ?_⟩
 unfold wpMix; simp only [pick, j2]
 (repeat (show wpQuiet _ _ _ _ (_ :: _) _; go_big_quiet_step (fail))); refine qn ?_
 clear y5 z13 z14 z15 z16 hD hD10
 go_wp2_with fail
 go_ret
 unfold StOut
 rw [HE3.out]
 refine ⟨rfl, ⟨v9, H10.out.2.2, StRest.full (s := { s with ring := ring', frozen := frozen', table := dropT (freshT s.table) r.range }) ?_ (H10.out.1.mono fun k hk => ?_)⟩, ?_⟩
 ·have h1 := (H9.out.2.1.same (Same.of_only H10.out.2.1 fun k hk e => by have := e.1; have := hk.2; omega)).mono (Q := fun k => P k ∨ w.heap.size ≤ k) fun k hk _ => hk.1
  exact ⟨h1.fit, h1.ring, h1.held, h1.outcomes, h1.decided, h1.frozen, h1.log⟩
 ·exact .inr (by have := hk.1; omega)
 ·exact H9.out.2.2.trans H10.out.2.1 fun q hq h => by have := h.1; omega
end Go.Proofs.YtpgocpodhamibaaGreatDoor
namespace Go.Proofs.YtpgocpodhamibaaGreatDoor
open Go.RowKit
theorem sizeR_put {r : Rec} (h : sizeR r ≤ 20000) : PutFair r.streams := by
 obtain ⟨h1, h2, h2'⟩ := sizeB_sum r.batch
 have h3 := sizeSs_bd r.streams
 obtain ⟨h4, h5, h6⟩ := weights_bd r.streams
 have h7 : (0 : Int) ≤ (sumD r.batch.puts : Int) := Int.natCast_nonneg _
 unfold sizeR at h
 exact ⟨by omega, fun s hs => by have := h6 s hs; omega⟩
set_option maxRecDepth 20000 in
set_option maxHeartbeats 3200000 in
theorem applyAll_any (g : Nat) (s : St) (r : Rec) (nA pA sA : Option Addr) (nc pc sc : Nat) (P Q : Nat → Prop) (w : World) (h : StAt w P g s) (hg : ¬ P g) (hS : Fit s)
 (hr : RecAt w Q r nA nc pA pc sA sc) (hQ : ¬ Q g) (hF : r.Fair) (hT : Tabs w) (h2 : 2 ≤ g) (hP : PutFair r.streams) (hrl : s.ring.length ≤ 300) (hfl : (freshT s.table).length ≤ 40000) :
 Calls Tryz.prog 17 #[ptrV g, .agg (r.cells nA nc pA pc sA sc).toArray] w (StOut w P g (applyS s r)) := by
 by_cases h12 : r.kind = 1 ∨ r.kind = 2
 ·rcases h12 with k | k
  ·exact applyK_1 g s r nA pA sA nc pc sc P Q w h hg hS hr hQ hF hT h2 k
  ·exact applyK_2 g s r nA pA sA nc pc sc P Q w h hg hS hr hQ hF hT h2 k
 have hgl := h.lt
 have HH := jh (ja h (ja hg (ja hS (ja hr (ja hF hT)))))
 clear h hg hS hr hF hT
 have hb1 := (jb w.heap.size w).al (.cells (r.cells nA nc pA pc sA sc).toArray 43)
 have B0 := Blk.new w 43 (r.cells nA nc pA pc sA sc)
 have hs1 : (w.alloc (.cells (r.cells nA nc pA pc sA sc).toArray 43)).heap.size = w.heap.size + 1 := by simp
 unfold ptrV
 go_enter Tryz.func17, Tryz.ntmps17
 go_upto_region 1 with fail
 refine forget (M := fun W => Code.wp _ _ _ _ W) (fun W => Below w.heap.size w W ∧ Blk W w.heap.size 43 (r.cells nA nc pA pc sA sc) ∧ W.heap.size = w.heap.size + 1) ⟨hb1, B0, hs1⟩ ?_
 clear B0 hb1 hs1
 rintro w1 ⟨hb1, B0, hs1⟩
 obtain ⟨v, hB, hI⟩ := HH.out.1
 have C1 := gone_any g s.self w1 ((hB.ext hb1).cell 0) HH.out.2.2.1.self
 have C2 := recCheck_any r nA pA sA nc pc sc Q w1 (HH.out.2.2.2.1.ext (Same.of_below hb1) hb1.size) HH.out.2.2.2.2.1 (HH.out.2.2.2.2.2.below hb1) (by omega)
 unfold ptrV at C1
 have H1 := jh (ja hb1 hs1)
 clear hB hI hb1
 go_wp2_with fail
 refine C1.mono ?_
 clear C1
 rintro e w' ⟨rfl, rfl⟩
 go_wp2_with (first
  | ((with_reducible refine wpList_load_blk rfl rfl ?_ B0 Tryz.underlying43 rfl (by kernel_rfl) ?_); · rfl)
  | fail)
 refine C2.mono ?_
 clear C2
 rintro e w2 ⟨rfl, hb2⟩
 have B2 := B0.ext hb2
 have hw2 := H1.out.1.tr hb2
 by_cases hc : checkR r = 0
 ·have hk := checkR_kind hc
  have HA := jh (show applyS s r = doS s r from by unfold applyS; rw [if_neg (by rw [hc]; simp)])
  have hst2 : StAt w2 P g s := by obtain ⟨v, hB, hI⟩ := HH.out.1; exact ⟨v, hB.ext hw2, hI.same (Same.of_below hw2)⟩
  have hra := (HH.out.2.2.2.1.mono fun k h h' => (⟨h, h'⟩ : Q k ∧ k < w.heap.size)).ext (Same.of_below hw2) hw2.size
  have hT2 := HH.out.2.2.2.2.2.below hw2
  have D3 := jh fun (h : r.kind = 3) => (show Calls Tryz.prog 72 #[ptrV g, .agg (r.cells nA nc pA pc sA sc).toArray] w2 (StOut w2 P g (applyS s r)) from by rw [HA.out, show doS s r = commitS s r from by unfold doS; rw [h]; rfl]; exact commit_out g s r nA pA sA nc pc sc P (fun k => Q k ∧ k < w.heap.size) w2 hst2 HH.out.2.1 HH.out.2.2.1 hra (fun h => hQ h.1) HH.out.2.2.2.2.1.puts HH.out.2.2.2.2.1.data hT2 h2)
  have D4 := jh fun (h : r.kind = 4) => (show Calls Tryz.prog 73 #[ptrV g, .agg (r.cells nA nc pA pc sA sc).toArray] w2 (StOut w2 P g (applyS s r)) from by rw [HA.out, show doS s r = prepareS s r from by unfold doS; rw [h]; rfl]; exact prepare_any g s r nA pA sA nc pc sc P (fun k => Q k ∧ k < w.heap.size) w2 hst2 HH.out.2.1 HH.out.2.2.1 hra (fun h => hQ h.1) HH.out.2.2.2.2.1.puts HH.out.2.2.2.2.1.data hT2 h2)
  have D5 := jh fun (h : r.kind = 5) => (show Calls Tryz.prog 74 #[ptrV g, .agg (r.cells nA nc pA pc sA sc).toArray] w2 (StOut w2 P g (applyS s r)) from by rw [HA.out, show doS s r = decideS s r from by unfold doS; rw [h]; rfl]; exact decide_out g s r nA pA sA nc pc sc P (fun k => Q k ∧ k < w.heap.size) w2 hst2 HH.out.2.1 HH.out.2.2.1 hra (fun h => hQ h.1) HH.out.2.2.2.2.1.puts HH.out.2.2.2.2.1.data hT2 h2)
  have D6 := jh fun (h : r.kind = 6) => (show Calls Tryz.prog 75 #[ptrV g, .agg (r.cells nA nc pA pc sA sc).toArray] w2 (StOut w2 P g (applyS s r)) from by rw [HA.out, show doS s r = outcomeS s r from by unfold doS; rw [h]; rfl]; exact outcome_out g s r nA pA sA nc pc sc P (fun k => Q k ∧ k < w.heap.size) w2 hst2 HH.out.2.1 HH.out.2.2.1 hra (fun h => hQ h.1) HH.out.2.2.2.2.1.nodes HH.out.2.2.2.2.1.data hT2 h2)
  have D7 := jh fun (h : r.kind = 7) => (show Calls Tryz.prog 76 #[ptrV g, .agg (r.cells nA nc pA pc sA sc).toArray] w2 (StOut w2 P g (applyS s r)) from by rw [HA.out, show doS s r = forgetS s r from by unfold doS; rw [h]; rfl]; exact forget_out g s r nA pA sA nc pc sc P (fun k => Q k ∧ k < w.heap.size) w2 hst2 HH.out.2.1 HH.out.2.2.1 hra (fun h => hQ h.1) HH.out.2.2.2.2.1.nodes HH.out.2.2.2.2.1.data hT2 h2)
  have D8 := jh fun (h : r.kind = 8) => (show Calls Tryz.prog 77 #[ptrV g, .agg (r.cells nA nc pA pc sA sc).toArray] w2 (StOut w2 P g (applyS s r)) from by rw [HA.out, show doS s r = splitS s r from by unfold doS; rw [h]; rfl]; exact ssplit_any g s r nA pA sA nc pc sc P (fun k => Q k ∧ k < w.heap.size) w2 hst2 HH.out.2.1 HH.out.2.2.1 hra)
  have D9 := jh fun (h : r.kind = 9) => (show Calls Tryz.prog 78 #[ptrV g, .agg (r.cells nA nc pA pc sA sc).toArray] w2 (StOut w2 P g (applyS s r)) from by rw [HA.out, show doS s r = freezeS s r from by unfold doS; rw [h]; rfl]; exact freeze_any g s r nA pA sA nc pc sc P (fun k => Q k ∧ k < w.heap.size) w2 hst2 HH.out.2.1 HH.out.2.2.1 hra (freeze_empty hc (.inl h)))
  have D10 := jh fun (h : r.kind = 10) => (show Calls Tryz.prog 79 #[ptrV g, .agg (r.cells nA nc pA pc sA sc).toArray] w2 (StOut w2 P g (applyS s r)) from by rw [HA.out, show doS s r = installS s r from by unfold doS; rw [h]; rfl]; exact install_any g s r nA pA sA nc pc sc P (fun k => Q k ∧ k < w.heap.size) w2 hst2 HH.out.2.1 HH.out.2.2.1 hra (fun h => hQ h.1) hP (checkR_span hc (.inr (.inl h))).1 hrl hfl hT2 h2)
  have D11 := jh fun (h : r.kind = 11) => (show Calls Tryz.prog 80 #[ptrV g, .agg (r.cells nA nc pA pc sA sc).toArray] w2 (StOut w2 P g (applyS s r)) from by rw [HA.out, show doS s r = releaseS s r from by unfold doS; rw [h]; rfl]; exact release_any g s r nA pA sA nc pc sc P (fun k => Q k ∧ k < w.heap.size) w2 hst2 HH.out.2.1 HH.out.2.2.1 hra hrl hfl hT2 h2)
  have hcase : r.kind = 3 ∨ r.kind = 4 ∨ r.kind = 5 ∨ r.kind = 6 ∨ r.kind = 7 ∨ r.kind = 8 ∨ r.kind = 9 ∨ r.kind = 10 ∨ r.kind = 11 := by omega
  rw [hc]
  have x0 : w2.cell? ⟨w.heap.size, 0, none⟩ = some (.int .i64 r.kind) := B2.cell 0
  have H2 := jh hw2
  clear hc hb2 hw2 B0 hst2 hra hT2 hk h12 HA
  generalize applyS s r = q at *
  rcases hcase with h8 | h8 | h8 | h8 | h8 | h8 | h8 | h8 | h8
  all_goals
   first
    | have C3 := D3.out h8
    | have C3 := D4.out h8
    | have C3 := D5.out h8
    | have C3 := D6.out h8
    | have C3 := D7.out h8
    | have C3 := D8.out h8
    | have C3 := D9.out h8
    | have C3 := D10.out h8
    | have C3 := D11.out h8
   rw [h8] at x0
   clear D3 D4 D5 D6 D7 D8 D9 D10 D11 h8
   unfold ptrV at C3
   go_wp2_with (first
    | ((with_reducible refine wpList_load_blk rfl rfl ?_ B2 Tryz.underlying43 rfl (by kernel_rfl) ?_); · rfl)
    | fail)
   refine C3.mono ?_
   clear C3 x0 B2
   rintro e w3 ⟨rfl, hst, hO⟩
   have H3 := jh (ja hst hO)
   clear hst hO
   go_wp2_with fail
   go_ret
   unfold StOut
   obtain ⟨v', a1, a2⟩ := H3.out.1
   exact ⟨rfl, ⟨v', a1, a2.mono fun k hk => by
    rcases hk with h | h
    ·exact .inl h
    ·exact .inr (by have := H2.out.size; omega)⟩, (Only.of_below H2.out).tr H3.out.2⟩
 ·have HC := jh (show applyS s r = (s, checkR r) from by unfold applyS; rw [if_pos hc])
  have hc' : (checkR r != 0) = true := bne_iff_ne.2 hc
  obtain ⟨v, hB, hI⟩ := HH.out.1
  have H3 := jh (ja (⟨v, hB.ext hw2, hI.same (Same.of_below hw2)⟩ : StAt w2 P g s) hw2)
  clear hc hB hI hb2 hw2 B0 B2 h12
  go_wp2_with fail
  go_ret
  unfold StOut
  rw [HC.out]
  obtain ⟨v', a1, a2⟩ := H3.out.1
  exact ⟨rfl, ⟨v', a1, a2.mono fun k hk => .inl hk⟩, Only.of_below H3.out.2⟩
end Go.Proofs.YtpgocpodhamibaaGreatDoor
namespace Go.Proofs.YtpgocpodhamibaaGreatDoor
open Go.RowKit
set_option maxRecDepth 20000 in
set_option maxHeartbeats 800000 in
theorem sfrozen_any (g : Nat) (s : St) (P : Nat → Prop) (w : World) (h : StAt w P g s) (hs : s.self ≠ 0) (hl : s.frozen.length ≤ 1000000) : Calls Tryz.prog 23 #[ptrV g] w fun e w' => GotOwn RecR w.heap.size 43 (fun k => w.heap.size ≤ k ∨ P k) s.frozen e w' ∧ Below w.heap.size w w' := by
 obtain ⟨v, hB, hI⟩ := h
 have b0 : w.cell? ⟨g, 0, none⟩ = some (.int .i64 s.self) := hB.cell 0
 have b4 : w.cell? ⟨g, 9, none⟩ = some v.frozen := hB.cell 9
 have C1 := gone_any g s.self w b0 hs
 obtain ⟨A, c, hv, hc1, hc2, hrow⟩ := hI.frozen
 have hvl : v.frozen = .slice A s.frozen.length c := by injection hv
 rw [hvl] at b4
 have C2 := clone_Rec A c s.frozen P w hrow (by omega)
 unfold GotOwn at C2
 clear hB hI hv hvl hrow hc1 hc2 hl b0
 unfold ptrV at C1 ⊢
 go_enter Tryz.func23, Tryz.ntmps23
 go_wp2_with fail
 refine C1.mono ?_
 clear C1
 rintro e w' ⟨rfl, rfl⟩
 go_wp2_with fail
 refine C2.mono ?_
 clear C2 b4
 rintro e w' ⟨⟨v2, rfl, hv2⟩, hb2⟩
 have HV := jh (ja hv2 hb2)
 obtain ⟨A2, c2, rfl, _⟩ := hv2.form
 clear hv2 hb2
 go_wp2_with fail
 go_ret
 exact ⟨⟨_, rfl, HV.out.1⟩, HV.out.2⟩
end Go.Proofs.YtpgocpodhamibaaGreatDoor
namespace Go.Proofs.YtpgocpodhamibaaGreatDoor
open Go.RowKit
structure RunP where
 r : Range
 src : Range
 who : Int
 deriving DecidableEq
def newerB (me : Int) (a b : Range) : Prop := a.owner ≠ me ∧ b.owner ≠ me ∧ a.epoch < b.epoch
instance (me : Int) (a b : Range) : Decidable (newerB me a b) := by unfold newerB; exact inferInstance
def stepM (me : Int) (a b : Range) : RunP :=
 if newerB me a b then ⟨{ b with first := max a.first b.first, last := min a.last b.last }, b, 2⟩ else ⟨{ a with first := max a.first b.first, last := min a.last b.last }, a, 1⟩
def pushR (l : List RunP) (x : RunP) : List RunP :=
 match l.getLast? with
 | some y => if y.who = x.who ∧ y.src = x.src then l.dropLast ++ [{ y with r := { y.r with last := x.r.last } }] else l ++ [x]
 | none => l ++ [x]
def runsR (me : Int) : Nat → List Range → List Range → List RunP → List RunP
 | n + 1, a :: m, b :: t, l => runsR me n (if a.last = min a.last b.last then m else a :: m) (if b.last = min a.last b.last then t else b :: t) (pushR l (stepM me a b))
 | _, _, _, l => l
def mergeL (me : Int) (mine theirs : List Range) : List RunP := runsR me (mine.length + theirs.length) mine theirs []
def mergeR (me : Int) (mine theirs : List Range) : List Range :=
 if soundR mine = false ∨ soundR theirs = false then mine else if 64 < (mergeL me mine theirs).length then mine else (mergeL me mine theirs).map RunP.r
theorem stepM_r (me : Int) (a b : Range) : (stepM me a b).r.first = max a.first b.first ∧ (stepM me a b).r.last = min a.last b.last := by
 unfold stepM; split <;> exact ⟨rfl, rfl⟩
structure RunsOk (me : Int) (mine theirs : List Range) (p : Int) (l : List RunP) : Prop where
 sound : soundFrom (l.map RunP.r) 0 = some p
 like : ∀ y ∈ l, y.r.owner = y.src.owner ∧ y.r.epoch = y.src.epoch
 who : ∀ y ∈ l, (y.who = 1 ∧ y.src ∈ mine ∧ y.src.first ≤ y.r.first ∧ y.r.last ≤ y.src.last) ∨
  (y.who = 2 ∧ y.src.owner ≠ me ∧ ∀ x ∈ mine, ∀ h, x.has h = true → y.r.has h = true → x.owner ≠ me ∧ x.epoch ≤ y.r.epoch)
 own : ∀ y ∈ l, y.who = 1 → y.src.owner = me → y.r.first = y.src.first ∧ (y.r.last = y.src.last ∨ (y.r.last + 1 = p ∧ p ≤ y.src.last))
theorem soundFrom_last {l : List Range} {y : Range} {n m : Int} (h : soundFrom (l ++ [y]) n = some m) : y.last + 1 = m ∧ soundFrom l n = some y.first ∧ y.first ≤ y.last ∧ y.last ≤ 4294967295 ∧ ownedB y = true := by
 rw [soundFrom_app] at h
 obtain ⟨k, h1, h2⟩ := h
 rw [soundF_cons] at h2
 obtain ⟨⟨e1, e2, e3, e4⟩, e5⟩ := h2
 simp [soundFrom] at e5
 exact ⟨e5, e1 ▸ h1, by omega, e3, e4⟩
theorem runs_step {me : Int} {mine theirs : List Range} {p : Int} {l : List RunP} (hm : soundFrom mine 0 = some 4294967296) (hI : RunsOk me mine theirs p l) {a b : Range} (ha : a ∈ mine) (hb : ownedB b = true)
 (hp : max a.first b.first = p) (hal : p ≤ a.last) (hbl : p ≤ b.last) : RunsOk me mine theirs (min a.last b.last + 1) (pushR l (stepM me a b)) := by
 have haf : a.has p = true := has_iff.2 ⟨by omega, hal⟩
 have ham := soundFrom_mem hm ha
 have hp0 : 0 ≤ p := by omega
 have huq : ∀ x ∈ mine, x.has p = true → x = a := fun x hx h => soundFrom_uniq hm hx ha h haf
 have hin : ∀ h, p ≤ h → h ≤ min a.last b.last → ∀ x ∈ mine, x.has h = true → x = a := fun h h1 h2 x hx hh => soundFrom_uniq hm hx ha hh (has_iff.2 ⟨by omega, by omega⟩)
 obtain ⟨hsf, hsl⟩ := stepM_r me a b
 have hso : ownedB (stepM me a b).r = true := by unfold stepM; split; exact hb; exact ham.2.2.2.2
 have hlk : (stepM me a b).r.owner = (stepM me a b).src.owner ∧ (stepM me a b).r.epoch = (stepM me a b).src.epoch := by unfold stepM; split <;> exact ⟨rfl, rfl⟩
 have hwh : ((stepM me a b).who = 1 ∧ (stepM me a b).src = a) ∨ ((stepM me a b).who = 2 ∧ (stepM me a b).src = b ∧ newerB me a b) := by
  unfold stepM; split
  ·exact .inr ⟨rfl, rfl, by assumption⟩
  ·exact .inl ⟨rfl, rfl⟩
 generalize stepM me a b = x at *
 have happ : (∀ y, l.getLast? = some y → ¬ (y.who = x.who ∧ y.src = x.src)) → RunsOk me mine theirs (min a.last b.last + 1) (l ++ [x]) := fun hnm => by
  have hpos : a.owner = me → (∀ y, l.getLast? = some y → ¬ (y.who = x.who ∧ y.src = x.src)) → x.who = 1 → a.first = p ∧ ∀ y ∈ l, y.who = 1 → y.src.owner = me → ¬ (y.r.last + 1 = p ∧ p ≤ y.src.last) := fun hao hnm hw => by
   have hxs : x.src = a := by rcases hwh with ⟨_, h⟩ | ⟨h, _⟩; exact h; omega
   refine ⟨?_, fun y hy hy1 hys hc => ?_⟩
   ·by_cases hc : a.first = p
    ·exact hc
    ·exfalso
     have hlt : a.first < p := by omega
     rcases List.eq_nil_or_concat l with hl | ⟨l', y, hl⟩
     ·have h1 := hI.sound
      rw [hl] at h1
      simp [soundFrom] at h1
      omega
     ·rw [List.concat_eq_append] at hl
      have h1 := hI.sound
      rw [hl, List.map_append] at h1
      obtain ⟨e1, e2, e3, e4, e5⟩ := soundFrom_last h1
      have hyl : l.getLast? = some y := by rw [hl]; simp
      have hym : y ∈ l := by rw [hl]; simp
      have hah : a.has (p - 1) = true := has_iff.2 ⟨by omega, by omega⟩
      have hyh : y.r.has (p - 1) = true := has_iff.2 ⟨by omega, by omega⟩
      rcases hI.who y hym with ⟨w1, w2, w3, w4⟩ | ⟨w1, w2, w3⟩
      ·have hya : y.src = a := soundFrom_uniq hm w2 ha (has_iff.2 ⟨by omega, by omega⟩) hah
       exact hnm y hyl ⟨by rw [w1, hw], by rw [hya, hxs]⟩
      ·exact (w3 a ha _ hah hyh).1 hao
   ·rcases hI.who y hy with ⟨w1, w2, w3, w4⟩ | ⟨w1, w2, w3⟩
    ·have hya : y.src = a := huq _ w2 (has_iff.2 ⟨by
      have h2 := soundFrom_mem hI.sound (List.mem_map_of_mem hy)
      omega, hc.2⟩)
     -- y is the last one
     rcases List.eq_nil_or_concat l with hl | ⟨l', z, hl⟩
     ·rw [hl] at hy; cases hy
     ·rw [List.concat_eq_append] at hl
      have h1 := hI.sound
      rw [hl, List.map_append] at h1
      obtain ⟨e1, e2, e3, e4, e5⟩ := soundFrom_last h1
      have hzl : l.getLast? = some z := by rw [hl]; simp
      rw [hl] at hy
      rcases List.mem_append.1 hy with hy | hy
      ·have h2 := soundFrom_mem e2 (List.mem_map_of_mem hy)
       omega
      ·rw [List.mem_singleton.1 hy] at hya w1
       exact hnm z hzl ⟨by rw [w1, hw], by rw [hya, hxs]⟩
    ·omega
  refine ⟨?_, ?_, ?_, ?_⟩
  ·rw [List.map_append, soundFrom_app]
   exact ⟨p, hI.sound, soundF_cons.2 ⟨⟨by rw [hsf]; omega, by omega, by omega, hso⟩, by simp [soundFrom, hsl]⟩⟩
  ·intro y hy
   rcases List.mem_append.1 hy with hy | hy
   ·exact hI.like y hy
   ·rw [List.mem_singleton.1 hy]; exact hlk
  ·intro y hy
   rcases List.mem_append.1 hy with hy | hy
   ·exact hI.who y hy
   ·rw [List.mem_singleton.1 hy]
    rcases hwh with ⟨h1, h2⟩ | ⟨h1, h2, h3⟩
    ·exact .inl ⟨h1, by rw [h2]; exact ha, by rw [h2]; omega, by rw [h2]; omega⟩
    ·refine .inr ⟨h1, by rw [h2]; exact h3.2.1, fun z hz h hzh hxh => ?_⟩
     rw [has_iff] at hxh
     have := hin h (by omega) (by omega) z hz hzh
     subst this
     exact ⟨h3.1, by rw [hlk.2, h2]; have := h3.2.2; omega⟩
  ·intro y hy hy1 hys
   rcases List.mem_append.1 hy with hy | hy
   ·rcases hI.own y hy hy1 hys with ⟨h1, h2 | h2⟩
    ·exact ⟨h1, .inl h2⟩
    ·exfalso
     rcases hwh with ⟨g1, g2⟩ | ⟨g1, g2, g3⟩
     ·have hya : y.src = a := by
       rcases hI.who y hy with ⟨w1, w2, w3, w4⟩ | ⟨w1, w2, w3⟩
       ·exact huq _ w2 (has_iff.2 ⟨by have h3 := soundFrom_mem hI.sound (List.mem_map_of_mem hy); omega, h2.2⟩)
       ·omega
      exact (hpos (hya ▸ hys) hnm g1).2 y hy hy1 hys h2
     ·rcases hI.who y hy with ⟨w1, w2, w3, w4⟩ | ⟨w1, w2, w3⟩
      ·have hya := huq _ w2 (has_iff.2 ⟨by have h3 := soundFrom_mem hI.sound (List.mem_map_of_mem hy); omega, h2.2⟩)
       exact g3.1 (hya ▸ hys)
      ·omega
   ·rw [List.mem_singleton.1 hy] at hy1 hys ⊢
    rcases hwh with ⟨h1, h2⟩ | ⟨h1, h2, h3⟩
    ·rw [h2] at hys ⊢
     have h4 := (hpos hys hnm h1).1
     refine ⟨by omega, ?_⟩
     by_cases h5 : a.last ≤ b.last
     ·exact .inl (by omega)
     ·exact .inr ⟨by omega, by omega⟩
    ·omega
 unfold pushR
 cases hl : l.getLast? with
 | none => exact happ fun y hy => by rw [hl] at hy; cases hy
 | some y =>
   dsimp only
   by_cases hc : y.who = x.who ∧ y.src = x.src
   ·rw [if_pos hc]
    obtain ⟨l', hl'⟩ : ∃ l', l = l' ++ [y] := by
     rcases List.eq_nil_or_concat l with h | ⟨l', z, h⟩
     ·rw [h] at hl; cases hl
     ·rw [List.concat_eq_append] at h
      rw [h] at hl
      simp at hl
      exact ⟨l', by rw [h, hl]⟩
    have hdl : l.dropLast = l' := by rw [hl']; simp
    rw [hdl]
    have h1 := hI.sound
    rw [hl', List.map_append] at h1
    obtain ⟨e1, e2, e3, e4, e5⟩ := soundFrom_last h1
    have hym : y ∈ l := by rw [hl']; simp
    have hmem : ∀ z ∈ l', z ∈ l := fun z hz => by rw [hl']; simp [hz]
    refine ⟨?_, ?_, ?_, ?_⟩
    ·rw [List.map_append, soundFrom_app]
     refine ⟨y.r.first, e2, ?_⟩
     show soundFrom [_] _ = _
     rw [soundF_cons]
     exact ⟨⟨rfl, by show _ ≤ x.r.last; omega, by show x.r.last ≤ _; omega, e5⟩, by simp only [soundFrom, hsl]⟩
    ·intro z hz
     rcases List.mem_append.1 hz with hz | hz
     ·exact hI.like z (hmem z hz)
     ·rw [List.mem_singleton.1 hz]; exact hI.like y hym
    ·intro z hz
     rcases List.mem_append.1 hz with hz | hz
     ·exact hI.who z (hmem z hz)
     ·rw [List.mem_singleton.1 hz]
      rcases hI.who y hym with ⟨w1, w2, w3, w4⟩ | ⟨w1, w2, w3⟩
      ·refine .inl ⟨w1, w2, w3, ?_⟩
       show x.r.last ≤ y.src.last
       rcases hwh with ⟨h1, h2⟩ | ⟨h1, h2, h3⟩
       ·rw [hc.2, h2]; omega
       ·omega
      ·refine .inr ⟨w1, w2, fun z hz h hzh hyh => ?_⟩
       rw [has_iff] at hyh
       have hyh1 : y.r.first ≤ h := hyh.1
       have hyh2 : h ≤ x.r.last := hyh.2
       by_cases hhp : h < p
       ·exact w3 z hz h hzh (has_iff.2 ⟨hyh1, by omega⟩)
       ·have := hin h (by omega) (by omega) z hz hzh
        subst this
        rcases hwh with ⟨h1, h2⟩ | ⟨h1, h2, h3⟩
        ·omega
        ·refine ⟨h3.1, ?_⟩
         show z.epoch ≤ y.r.epoch
         rw [(hI.like y hym).2, hc.2, h2]
         have := h3.2.2
         omega
    ·intro z hz hz1 hzs
     rcases List.mem_append.1 hz with hz | hz
     ·rcases hI.own z (hmem z hz) hz1 hzs with ⟨g1, g2 | g2⟩
      ·exact ⟨g1, .inl g2⟩
      ·exfalso
       have := soundFrom_mem e2 (List.mem_map_of_mem hz)
       omega
     ·rw [List.mem_singleton.1 hz] at hz1 hzs ⊢
      have g1 := hI.own y hym hz1 hzs
      refine ⟨g1.1, ?_⟩
      show x.r.last = y.src.last ∨ _
      rcases hwh with ⟨h1, h2⟩ | ⟨h1, h2, h3⟩
      ·have hya : y.src = a := by rw [hc.2, h2]
       show x.r.last = y.src.last ∨ (x.r.last + 1 = _ ∧ _ ≤ y.src.last)
       rw [hya]
       by_cases h5 : a.last ≤ b.last
       ·exact .inl (by omega)
       ·exact .inr ⟨by omega, by omega⟩
      ·have hz1' : y.who = 1 := hz1
       omega
   ·rw [if_neg hc]
    exact happ fun z hz => by rw [hl] at hz; injection hz with hz; subst hz; exact hc
theorem runs_all {me : Int} {mine theirs : List Range} (hm : soundFrom mine 0 = some 4294967296) :
 ∀ (n : Nat) (m t : List Range) (p : Int) (l : List RunP), m.length + t.length ≤ n → (∀ x ∈ m, x ∈ mine) → RunsOk me mine theirs p l →
   (p = 4294967296 ∧ m = [] ∧ t = [] ∨ ∃ a m' b t', m = a :: m' ∧ t = b :: t' ∧ max a.first b.first = p ∧ p ≤ a.last ∧ p ≤ b.last ∧ ownedB b = true ∧ soundFrom m' (a.last + 1) = some 4294967296 ∧ soundFrom t' (b.last + 1) = some 4294967296 ∧ a.last ≤ 4294967295 ∧ b.last ≤ 4294967295) →
   RunsOk me mine theirs 4294967296 (runsR me n m t l)
 | n, m, t, p, l, hn, hmm, hI, hc => by
   rcases hc with ⟨rfl, rfl, rfl⟩ | ⟨a, m', b, t', rfl, rfl, hp, hal, hbl, hob, hsm, hst, hla, hlb⟩
   ·cases n <;> exact hI
   ·cases n with
    | zero => simp at hn
    | succ n =>
      show RunsOk me mine theirs _ (runsR me n (if a.last = min a.last b.last then m' else a :: m') (if b.last = min a.last b.last then t' else b :: t') (pushR l (stepM me a b)))
      have hstep := runs_step hm hI (hmm a (by simp)) hob hp hal hbl
      have hnext : ∀ (q : List Range) (k : Int), soundFrom q k = some 4294967296 → k ≤ 4294967295 → ∃ x q', q = x :: q' ∧ x.first = k ∧ k ≤ x.last ∧ x.last ≤ 4294967295 ∧ ownedB x = true ∧ soundFrom q' (x.last + 1) = some 4294967296 := fun q k hq hk => by
       cases q with
       | nil => simp [soundFrom] at hq; omega
       | cons x q' => rw [soundF_cons] at hq; exact ⟨x, q', rfl, hq.1.1, hq.1.2.1, hq.1.2.2.1, hq.1.2.2.2, hq.2⟩
      have hend : ∀ (q : List Range), soundFrom q 4294967296 = some 4294967296 → q = [] := fun q hq => by
       cases q with
       | nil => rfl
       | cons x q' => rw [soundF_cons] at hq; omega
      simp only [List.length_cons] at hn
      rcases Int.lt_trichotomy a.last b.last with h | h | h
      ·rw [if_pos (by omega), if_neg (by omega)]
       rw [show min a.last b.last = a.last by omega] at hstep
       refine runs_all hm n _ _ _ _ (by simp; omega) (fun x hx => hmm x (by simp [hx])) hstep (.inr ?_)
       obtain ⟨x, q', rfl, e1, e2, e3, e4, e5⟩ := hnext m' _ hsm (by omega)
       exact ⟨x, q', b, t', rfl, rfl, by omega, by omega, by omega, hob, e5, hst, e3, hlb⟩
      ·rw [if_pos (by omega), if_pos (by omega)]
       rw [show min a.last b.last = a.last by omega] at hstep
       refine runs_all hm n _ _ _ _ (by omega) (fun x hx => hmm x (by simp [hx])) hstep ?_
       by_cases h2 : a.last = 4294967295
       ·left
        exact ⟨by omega, hend _ (by rw [← hsm, h2]; rfl), hend _ (by rw [← hst, ← h, h2]; rfl)⟩
       ·right
        obtain ⟨x, q', rfl, e1, e2, e3, e4, e5⟩ := hnext m' _ hsm (by omega)
        obtain ⟨y, s', rfl, f1, f2, f3, f4, f5⟩ := hnext t' _ hst (by omega)
        exact ⟨x, q', y, s', rfl, rfl, by omega, by omega, by omega, f4, e5, f5, e3, f3⟩
      ·rw [if_neg (by omega), if_pos (by omega)]
       rw [show min a.last b.last = b.last by omega] at hstep
       refine runs_all hm n _ _ _ _ (by simp; omega) hmm hstep (.inr ?_)
       obtain ⟨y, s', rfl, f1, f2, f3, f4, f5⟩ := hnext t' _ hst (by omega)
       exact ⟨a, m', y, s', rfl, rfl, by omega, by omega, by omega, f4, hsm, f5, hla, f3⟩
theorem merge_runs {me : Int} {mine theirs : List Range} (hm : soundR mine = true) (ht : soundR theirs = true) : RunsOk me mine theirs 4294967296 (mergeL me mine theirs) := by
 have h1 := (sound_iff.1 hm).1
 have h2 := (sound_iff.1 ht).1
 unfold mergeL
 refine runs_all h1 _ _ _ 0 [] (Nat.le_refl _) (fun _ h => h) ⟨rfl, by simp, by simp, by simp⟩ (.inr ?_)
 cases mine with
 | nil => simp [soundFrom] at h1
 | cons a m =>
   cases theirs with
   | nil => simp [soundFrom] at h2
   | cons b t =>
     rw [soundF_cons] at h1 h2
     exact ⟨a, m, b, t, rfl, rfl, by omega, by omega, by omega, h2.1.2.2.2, h1.2, h2.2, h1.1.2.2.1, h2.1.2.2.1⟩
theorem merge_sound {me : Int} {mine theirs : List Range} (hm : soundR mine = true) : soundR (mergeR me mine theirs) = true := by
 unfold mergeR
 split
 ·exact hm
 ·rename_i h
  simp only [not_or, Bool.not_eq_false] at h
  split
  ·exact hm
  ·exact sound_iff.2 ⟨(merge_runs h.1 h.2).sound, by rw [List.length_map]; omega⟩
theorem merge_find {me : Int} {mine theirs : List Range} (hm : soundR mine = true) {h : Int} (h0 : 0 ≤ h) (h1 : h < 4294967296) :
 ∃ x y, findR mine h = (x, true) ∧ findR (mergeR me mine theirs) h = (y, true) ∧ (x.owner = me ↔ y.owner = me) ∧ (x.owner = me → y = x) ∧ x.epoch ≤ y.epoch := by
 obtain ⟨_, x, _, hl, hxh, _, hx⟩ := at_spec hm h0 h1
 have hxm : x ∈ mine := by rw [hl]; simp
 by_cases hc : mergeR me mine theirs = mine
 ·exact ⟨x, x, hx, by rw [hc]; exact hx, Iff.rfl, fun _ => rfl, Int.le_refl _⟩
 ·have hms := merge_sound (me := me) (theirs := theirs) hm
  obtain ⟨_, y, _, hly, hyh, _, hy⟩ := at_spec hms h0 h1
  have hym : y ∈ mergeR me mine theirs := by rw [hly]; simp
  refine ⟨x, y, hx, hy, ?_⟩
  unfold mergeR at hc hym
  split at hym
  ·rename_i hh; rw [if_pos hh] at hc; exact absurd rfl hc
  ·rename_i hh
   rw [if_neg hh] at hc
   split at hym
   ·rename_i hh2; rw [if_pos hh2] at hc; exact absurd rfl hc
   ·simp only [not_or, Bool.not_eq_false] at hh
    obtain ⟨z, hz, rfl⟩ := List.mem_map.1 hym
    have hR := merge_runs (me := me) hh.1 hh.2
    have hlk := hR.like z hz
    rw [has_iff] at hyh hxh
    rcases hR.who z hz with ⟨w1, w2, w3, w4⟩ | ⟨w1, w2, w3⟩
    ·have hzx : z.src = x := soundFrom_uniq (sound_iff.1 hm).1 w2 hxm (has_iff.2 ⟨by omega, by omega⟩) (has_iff.2 hxh)
     rw [hzx] at hlk
     refine ⟨by rw [hlk.1], fun ho => ?_, by rw [hlk.2]; exact Int.le_refl _⟩
     have h3 := hR.own z hz w1 (by rw [hzx]; exact ho)
     rw [hzx] at h3
     have h4 := soundFrom_mem (sound_iff.1 hm).1 hxm
     have h5 : z.r.last = x.last := by rcases h3.2 with h | h <;> omega
     obtain ⟨z1, z2, z3⟩ := z
     obtain ⟨a1, a2, a3, a4⟩ := z1
     obtain ⟨b1, b2, b3, b4⟩ := x
     simp only at h3 h5 hlk
     rw [h3.1, h5, hlk.1, hlk.2]
    ·have h3 := w3 x hxm h (has_iff.2 hxh) (has_iff.2 hyh)
     exact ⟨⟨fun q => absurd q h3.1, fun q => absurd (hlk.1 ▸ q) w2⟩, fun q => absurd q h3.1, h3.2⟩
end Go.Proofs.YtpgocpodhamibaaGreatDoor
