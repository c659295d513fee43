/- slices.Delete at records. state.release. state.Apply for a release; for any record. state.State.Frozen. The reference's ring: SoundRing and Find of a sound ring. Plain laws of a state that records made: whose it is stays; frozen ranges are found. -/
import Derived.Test.YtpgocpodhamibaaGreatDoorR06
import Derived.Test.YtpgocpodhamibaaGreatDoorR02
import Derived.Test.YtpgocpodhamibaaGreatDoorRK07
import Derived.Test.YtpgocpodhamibaaGreatDoorR03
import Derived.Test.YtpgocpodhamibaaGreatDoorR04
import Derived.Test.YtpgocpodhamibaaGreatDoorRL02
import Derived.Test.YtpgocpodhamibaaGreatDoorRK02
import Derived.Test.YtpgocpodhamibaaGreatDoorRK05
import Derived.Test.YtpgocpodhamibaaGreatDoorRL01
namespace Go.Proofs.YtpgocpodhamibaaGreatDoor
open Go.RowKit

theorem flatten_split {s : Nat} : ∀ {css : List (List Value)}, (∀ cs ∈ css, cs.length = s) → ∀ k, css.flatten.take (k * s) = (css.take k).flatten ∧ css.flatten.drop (k * s) = (css.drop k).flatten
  | [], _, k => by simp
  | c :: r, h, 0 => by simp
  | c :: r, h, k + 1 => by
    have hc := h c (by simp)
    obtain ⟨h1, h2⟩ := flatten_split (css := r) (fun cs hcs => h cs (by simp [hcs])) k
    have e : (k + 1) * s = c.length + k * s := by rw [hc, Nat.succ_mul]; omega
    rw [List.flatten_cons, e, List.take_length_add_append, List.drop_length_add_append, h1, h2]
    simp
theorem zero_rec (w : World) : (zeroValue 43).run Tryz.prog w = .ok (.agg (Rec.cells ⟨0, 0, 0, false, ⟨0, 0, 0⟩, ⟨0, 0, 0⟩, [], ⟨⟨#[]⟩, []⟩, ⟨0, 0, 0, 0⟩, []⟩ none 0 none 0 none 0).toArray) w := by kernel_rfl
theorem flat_erase {α : Type} {R : Rep α} {w : World} {P : Nat → Prop} {xs : List Value} {l : List α} (h : R.flat w P xs l) {i : Nat} (_hi : i < l.length) : R.flat w P (xs.take (i * R.size) ++ xs.drop ((i + 1) * R.size)) (l.eraseIdx i) := by
  obtain ⟨css, rfl, hc, hr⟩ := h
  have hs : ∀ cs ∈ css, cs.length = R.size := fun cs hcs => by
    obtain ⟨k, hk, rfl⟩ := List.getElem_of_mem hcs
    exact R.len (hr k _ _ (List.getElem?_eq_getElem hk) (List.getElem?_eq_getElem (by omega)))
  refine ⟨css.eraseIdx i, ?_, by rw [List.length_eraseIdx, List.length_eraseIdx, hc], fun k cs a hk ha => ?_⟩
  · rw [(flatten_split hs i).1, (flatten_split hs (i + 1)).2, ← List.flatten_append, List.eraseIdx_eq_take_drop_succ]
  · rw [List.getElem?_eraseIdx] at hk ha
    by_cases hki : k < i
    · rw [if_pos hki] at hk ha; exact hr k cs a hk ha
    · rw [if_neg hki] at hk ha; exact hr (k + 1) cs a hk ha
def delC (cl : List Value) (i n : Nat) : List Value := cl.take (i * 18) ++ (cl.drop ((i + 1) * 18)).take (n * 18) ++ cl.drop ((i + n) * 18)
theorem del_cells {cl : List Value} {cap i n : Nat} {z : List Value} (hcl : cl.length = cap * 18) (hn : i + 1 + n ≤ cap) (hz : z.length = 18) :
    (delC cl i n).length = cap * 18 ∧ ((delC cl i n).take ((i + n) * 18) ++ z ++ (delC cl i n).drop ((i + n) * 18 + 18)).length = cap * 18 ∧
    ((delC cl i n).take ((i + n) * 18) ++ z ++ (delC cl i n).drop ((i + n) * 18 + 18)).take ((i + n) * 18) = (cl.take ((i + 1 + n) * 18)).take (i * 18) ++ (cl.take ((i + 1 + n) * 18)).drop ((i + 1) * 18) := by
  have h1 : (delC cl i n).length = cap * 18 := by
    unfold delC
    simp only [List.length_append, List.length_take, List.length_drop, hcl]
    omega
  have h2 : ((delC cl i n).take ((i + n) * 18)).length = (i + n) * 18 := by rw [List.length_take, h1]; omega
  refine ⟨h1, ?_, ?_⟩
  · simp only [List.length_append, h2, hz, List.length_drop, h1]
    omega
  · rw [List.append_assoc, List.take_append_of_le_length (by omega), List.take_take, Nat.min_self]
    unfold delC
    have e1 : (cl.take (i * 18) ++ (cl.drop ((i + 1) * 18)).take (n * 18)).length = (i + n) * 18 := by
      simp only [List.length_append, List.length_take, List.length_drop, hcl]
      omega
    rw [List.take_append_of_le_length (by omega), List.take_of_length_le (by omega), List.take_take, List.drop_take, Nat.min_eq_left (by omega)]
    congr 2
    omega
def DelOut (w : World) (v : Value) (B : Nat) (S : Nat → Prop) (l : List Rec) (e : Ending) (w' : World) : Prop := ∃ v', e = .returned v' ∧ RecR.Own w' B 43 S v' l ∧ Only (fun q => v.ownBlock = some q) w w'
set_option maxRecDepth 20000 in
set_option maxHeartbeats 3200000 in
theorem delete_any (v : Value) (l : List Rec) (i : Nat) (B : Nat) (S : Nat → Prop) (w : World) (h : RecR.Own w B 43 S v l) (hi : i < l.length) (hl : l.length ≤ 1000000) :
    Calls Tryz.prog 170 #[v, .int .i64 i, .int .i64 ((i : Int) + 1)] w (DelOut w v B S (l.eraseIdx i)) := by
  obtain ⟨xs, ⟨hxl, hd⟩, hflat⟩ := h
  rcases hd with ⟨h0, _⟩ | ⟨g, cap, cur, rfl, hB, hg, hn, hc, hs, ht⟩
  · omega
  have hBk : Blk w g 43 cur.toList := by unfold Blk; simpa using hg
  have hcl : cur.toList.length = cap * 18 := by rw [Array.length_toList, hs]; rfl
  have HX := Lib.hid (And.intro hxl (And.intro ht (And.intro hflat hB)))
  have hc63 : cap ≤ 9223372036854775807 := by unfold maxLen at hc; omega
  generalize cur.toList = cl at *
  clear hg hs ht hxl hflat hB hc
  have hne : ((i : Int) == (i : Int) + 1) = false := by rw [beq_eq_false_iff_ne]; omega
  have hi1 : (i : Int) + 1 ≤ l.length := by omega
  have hi0 : 0 ≤ (i : Int) := Int.natCast_nonneg _
  have hn' : (l.length : Int) ≤ cap := by omega
  have hcap' : (cap : Int) ≤ 9223372036854775807 := by omega
  go_enter Tryz.func170, Tryz.ntmps170
  go_upto_region 5 with fail
  haveI : Nonempty (Wd (fun _ : World => True)) := ⟨⟨w, trivial⟩⟩
  have hib : i + 1 ≤ l.length := by omega
  have HCUT := Lib.hid (show ∀ n, i + 1 + n = l.length → ∀ u ∈ (cl.drop ((i + 1) * 18)).take (n * 18), u.oneCell' = true from fun n hn1 u hu => by
    refine HX.out.2.2.1.ones u ?_
    rw [← HX.out.2.1]
    rw [List.take_drop] at hu
    have e : (i + 1) * 18 + n * 18 = l.length * RecR.size := by rw [← Nat.add_mul, hn1]; rfl
    rw [e] at hu
    exact List.mem_of_mem_drop hu)
  have HC := Lib.hid (show ∀ n, i + 1 + n = l.length → ∀ z : List Value, z.length = 18 → _ from fun n hn1 z hz => del_cells (cl := cl) (cap := cap) (i := i) (n := n) (z := z) hcl (by omega) hz)
  have HE := Lib.hid (flat_erase HX.out.2.2.1 hi)
  by_cases hck : cap = i + 1
  case pos =>
    subst hck
    refine wp_region_mix (.seg [0, 1, 2, 3, 4, 5] 6 (.leaf [7])) (fun w' => ∃ d : Wd (fun _ : World => True), w' = d.w) (by kernel_rfl) (by kernel_rfl) (fun _ _ d _ _ h => by cases d <;> exact h) (ClsW.mk (D := fun _ => True) trivial) ?_
    unfold wpMix; simp only [pick, p1, p2, p3, p4]
    (repeat (show wpQuiet _ _ _ _ (_ :: _) _; go_big_quiet_step (fail))); refine qn ?_
    obtain ⟨i0, e1, e2, e3, e4⟩ := info_parts rec_info
    refine wpList_cut_append rfl (.tmp 22) (.tmp 25) _ rfl 43 i0 Tryz.underlying48 e1 hBk.drew i 0 _ (i + 1) _ rfl _ rfl (fun hp => by first | omega | rw [e3]) (by omega) (by rw [e3]; omega) (by rw [e3]; omega) (by rw [e3]; exact HCUT.out 0 (by omega)) ?_
    intro w2 hB2 hO2
    rw [e3] at hB2
    have hO2 : Only (fun q => q = g) w w2 := (Only.of_below (Below.refl _ w).drew).tr hO2
    go_simp
    dsimp only [wpList, SegQ]
    refine ⟨fun w' => ∃ d : Wd (fun _ : World => True), w' = d.w, ClsW.mk (D := fun _ => True) trivial, fun _ h => h, ?_⟩
    unfold wpMix; simp only [pick, p1, p2, p3, p4]
    (repeat (show wpQuiet _ _ _ _ (_ :: _) _; go_big_quiet_step (fail))); refine qn ?_
    have hlast : i + 0 + 1 = l.length := by omega
    have HL := Lib.hid (And.intro hB2 hO2)
    clear e1 e2 e3 e4
    obtain ⟨hC1, hC2, hC3⟩ := HC.out 0 (by omega) (List.replicate 18 (.int .i64 0)) rfl
    obtain ⟨w3, zs, hcr, hz, hB3, hO3⟩ := run_clear_tail (P := Tryz.prog) 48 0 43 _ Tryz.underlying48 zero_rec (by decide) hB2 (i * 18) (l.length - i) (l.length - i) (by omega) (by have h1 := hC1; unfold delC at h1; rw [h1]; show _ + _ * 18 ≤ _; omega)
    have HZ := Lib.hid (And.intro hz (And.intro hB3 hO3))
    clear hz hB3 hO3 hC1 hC2 hC3 hB2 hO2
    go_wp2_with fail
    go_ret
    obtain ⟨hz, hB3, hO3⟩ := HZ.out
    have hO3 := HL.out.2.tr hO3
    have e1 : l.length - i = 1 := by omega
    rw [e1] at hz hB3
    have hz18 : zs.length = 18 := hz
    obtain ⟨q1, q2, q3⟩ := HC.out 0 (by omega) zs hz18
    have hll : (l.eraseIdx i).length = i + 0 := by rw [List.length_eraseIdx, if_pos hi]; omega
    have hxs : cl.take ((i + 1 + 0) * 18) = xs := by rw [← HX.out.2.1, show i + 1 + 0 = l.length from by omega]; rfl
    rw [hxs] at q3
    have hB3' : Blk w3 g 43 ((delC cl i 0).take ((i + 0) * 18) ++ zs ++ (delC cl i 0).drop ((i + 0) * 18 + 18)) := hB3
    have O := own_of_blk (R := RecR) (base := B) (S := S) (cap := i + 1) (l := l.eraseIdx i) hB3' q2 (by rw [hll]; omega) (by omega) HX.out.2.2.2 (xs := xs.take (i * 18) ++ xs.drop ((i + 1) * 18)) (by rw [hll]; exact q3)
      ((HE.out.same (Same.of_only hO3 fun k hk e => hk.2 (by rw [e]; rfl))).mono fun k hk _ => ⟨hk.1, fun e => hk.2 (by rw [e]; rfl)⟩)
    rw [hll] at O
    exact ⟨_, rfl, O, hO3.mono fun k e => by rw [e]; rfl⟩
  case neg =>
    skip
    refine wp_region_mix (.seg [0, 1, 2, 3, 4, 5] 6 (.leaf [7])) (fun w' => ∃ d : Wd (fun _ : World => True), w' = d.w) (by kernel_rfl) (by kernel_rfl) (fun _ _ d _ _ h => by cases d <;> exact h) (ClsW.mk (D := fun _ => True) trivial) ?_
    unfold wpMix; simp only [pick, p1, p2, p3, p4]
    (repeat (show wpQuiet _ _ _ _ (_ :: _) _; go_big_quiet_step (fail))); refine qn ?_
    obtain ⟨i0, e1, e2, e3, e4⟩ := info_parts rec_info
    refine wpList_cut_append rfl (.tmp 22) (.tmp 25) _ rfl 43 i0 Tryz.underlying48 e1 hBk.drew i (l.length - (i + 1)) _ (i + 1) _ rfl _ rfl (fun hp => by first | omega | rw [e3]) (by omega) (by rw [e3]; omega) (by rw [e3]; omega) (by rw [e3]; exact HCUT.out (l.length - (i + 1)) (by omega)) ?_
    intro w2 hB2 hO2
    rw [e3] at hB2
    have hO2 : Only (fun q => q = g) w w2 := (Only.of_below (Below.refl _ w).drew).tr hO2
    go_simp
    dsimp only [wpList, SegQ]
    refine ⟨fun w' => ∃ d : Wd (fun _ : World => True), w' = d.w, ClsW.mk (D := fun _ => True) trivial, fun _ h => h, ?_⟩
    unfold wpMix; simp only [pick, p1, p2, p3, p4]
    (repeat (show wpQuiet _ _ _ _ (_ :: _) _; go_big_quiet_step (fail))); refine qn ?_
    have hlast : i + (l.length - (i + 1)) + 1 = l.length := by omega
    have HL := Lib.hid (And.intro hB2 hO2)
    clear e1 e2 e3 e4
    obtain ⟨hC1, hC2, hC3⟩ := HC.out (l.length - (i + 1)) (by omega) (List.replicate 18 (.int .i64 0)) rfl
    obtain ⟨w3, zs, hcr, hz, hB3, hO3⟩ := run_clear_tail (P := Tryz.prog) 48 0 43 _ Tryz.underlying48 zero_rec (by decide) hB2 ((i + (l.length - (i + 1))) * 18) (l.length - (i + (l.length - (i + 1)))) (cap - (i + (l.length - (i + 1)))) (by omega) (by have h1 := hC1; unfold delC at h1; rw [h1]; show _ + _ * 18 ≤ _; omega)
    have HZ := Lib.hid (And.intro hz (And.intro hB3 hO3))
    clear hz hB3 hO3 hC1 hC2 hC3 hB2 hO2
    go_wp2_with fail
    go_ret
    obtain ⟨hz, hB3, hO3⟩ := HZ.out
    have hO3 := HL.out.2.tr hO3
    have e1 : l.length - (i + (l.length - (i + 1))) = 1 := by omega
    rw [e1] at hz hB3
    have hz18 : zs.length = 18 := hz
    obtain ⟨q1, q2, q3⟩ := HC.out (l.length - (i + 1)) (by omega) zs hz18
    have hll : (l.eraseIdx i).length = i + (l.length - (i + 1)) := by rw [List.length_eraseIdx, if_pos hi]; omega
    have hxs : cl.take ((i + 1 + (l.length - (i + 1))) * 18) = xs := by rw [← HX.out.2.1, show i + 1 + (l.length - (i + 1)) = l.length from by omega]; rfl
    rw [hxs] at q3
    have hB3' : Blk w3 g 43 ((delC cl i (l.length - (i + 1))).take ((i + (l.length - (i + 1))) * 18) ++ zs ++ (delC cl i (l.length - (i + 1))).drop ((i + (l.length - (i + 1))) * 18 + 18)) := hB3
    have O := own_of_blk (R := RecR) (base := B) (S := S) (cap := cap) (l := l.eraseIdx i) hB3' q2 (by rw [hll]; omega) (by omega) HX.out.2.2.2 (xs := xs.take (i * 18) ++ xs.drop ((i + 1) * 18)) (by rw [hll]; exact q3)
      ((HE.out.same (Same.of_only hO3 fun k hk e => hk.2 (by rw [e]; rfl))).mono fun k hk _ => ⟨hk.1, fun e => hk.2 (by rw [e]; rfl)⟩)
    rw [hll] at O
    exact ⟨_, rfl, O, hO3.mono fun k e => by rw [e]; rfl⟩
end Go.Proofs.YtpgocpodhamibaaGreatDoor
namespace Go.Proofs.YtpgocpodhamibaaGreatDoor
open Go.RowKit

def relB (r f : Rec) : Bool := decide (f.range.first = r.range.first) && decide (f.range.last = r.range.last)
set_option maxRecDepth 20000 in
set_option maxHeartbeats 1600000 in
theorem relHas_any (b : Nat) (r : Rec) (nA pA sA : Option Addr) (nc pc sc : Nat) (f : Rec) (nA' pA' sA' : Option Addr) (nc' pc' sc' : Nat) (w : World) (hb : Blk w b 43 (r.cells nA nc pA pc sA sc)) :
    Calls Tryz.prog 168 #[.agg (f.cells nA' nc' pA' pc' sA' sc').toArray, .pointer (some ⟨b, 0, none⟩)] w fun e w' => e = .returned (.bool (relB r f)) ∧ Below w.heap.size w w' := by
  have hb1 := (Below.refl w.heap.size w).al (.cells (f.cells nA' nc' pA' pc' sA' sc').toArray 43)
  have B0 := Blk.new w 43 (f.cells nA' nc' pA' pc' sA' sc')
  have BR := hb.ext hb1
  clear hb
  go_enter Tryz.func168, Tryz.ntmps168
  go_upto_region 1 with fail
  refine forget (M := fun W => Code.wp _ _ _ _ W) (fun W => Below w.heap.size w W ∧ Blk W w.heap.size 43 (f.cells nA' nc' pA' pc' sA' sc') ∧ Blk W b 43 (r.cells nA nc pA pc sA sc)) ⟨hb1, B0, BR⟩ ?_
  clear B0 hb1 BR
  rintro w1 ⟨hb1, B0, BR⟩
  have x13 : w1.cell? ⟨w.heap.size, 13, none⟩ = some (.int .i64 f.range.first) := B0.cell 13
  have x14 : w1.cell? ⟨w.heap.size, 14, none⟩ = some (.int .i64 f.range.last) := B0.cell 14
  have y13 : w1.cell? ⟨b, 13, none⟩ = some (.int .i64 r.range.first) := BR.cell 13
  have y14 : w1.cell? ⟨b, 14, none⟩ = some (.int .i64 r.range.last) := BR.cell 14
  have HB := Lib.hid hb1
  clear B0 hb1 BR
  have hcase : f.range.first ≠ r.range.first ∨ (f.range.first = r.range.first ∧ f.range.last ≠ r.range.last) ∨ (f.range.first = r.range.first ∧ f.range.last = r.range.last) := by omega
  rcases hcase with h1 | ⟨h1, h2⟩ | ⟨h1, h2⟩
  · have HE := Lib.hid (show relB r f = false from by simp [relB, h1])
    have g1 : (f.range.first == r.range.first) = false := beq_eq_false_iff_ne.2 h1
    clear h1
    go_wp2_with fail
    go_ret
    exact ⟨ret_bool HE.out.symm, HB.out⟩
  · have HE := Lib.hid (show relB r f = false from by simp [relB, h2])
    have g1 : (f.range.first == r.range.first) = true := beq_iff_eq.2 h1
    have g2 : (f.range.last == r.range.last) = false := beq_eq_false_iff_ne.2 h2
    clear h1 h2
    go_wp2_with fail
    go_ret
    exact ⟨ret_bool HE.out.symm, HB.out⟩
  · have HE := Lib.hid (show relB r f = true from by simp [relB, h1, h2])
    have g1 : (f.range.first == r.range.first) = true := beq_iff_eq.2 h1
    have g2 : (f.range.last == r.range.last) = true := beq_iff_eq.2 h2
    clear h1 h2
    go_wp2_with fail
    go_ret
    exact ⟨ret_bool HE.out.symm, HB.out⟩
theorem enters_release : ∀ args w, (callFunc 168 args).run Tryz.prog w = .ok (.enter 168 args) w := enters_of Tryz.func168 (by kernel_rfl) rfl

set_option maxRecDepth 20000 in
set_option maxHeartbeats 6400000 in
theorem release_any (g : Nat) (s : St) (r : Rec) (nA pA sA : Option Addr) (nc pc sc : Nat) (P Q : Nat → Prop) (w : World) (h : StAt w P g s) (hg : ¬ P g) (hS : Fit s)
    (hr : RecAt w Q r nA nc pA pc sA sc) (hrl : s.ring.length ≤ 300) (hfl : (freshT s.table).length ≤ 40000) (hT : Tabs w) (h2 : 2 ≤ g) :
    Calls Tryz.prog 80 #[ptrV g, .agg (r.cells nA nc pA pc sA sc).toArray] w (StOut w P g (releaseS s r)) := by
  have hgl := h.lt
  have HH := Lib.hid (And.intro h (And.intro hg (And.intro hS (And.intro hr hT))))
  clear h hg hS hr hT
  have hb1 := (Below.refl w.heap.size w).al (.cells (r.cells nA nc pA pc sA sc).toArray 43)
  have B0 := Blk.new w 43 (r.cells nA nc pA pc sA sc)
  have hs1 : (w.alloc (.cells (r.cells nA nc pA pc sA sc).toArray 43)).heap.size = w.heap.size + 1 := by simp
  unfold ptrV
  go_enter Tryz.func80, Tryz.ntmps80
  go_upto_region 1 with fail
  refine forget (M := fun W => Code.wp _ _ _ _ W) (fun W => Below w.heap.size w W ∧ Blk W w.heap.size 43 (r.cells nA nc pA pc sA sc) ∧ W.heap.size = w.heap.size + 1) ⟨hb1, B0, hs1⟩ ?_
  clear B0 hb1 hs1
  rintro w1 ⟨hb1, B0, hs1⟩
  obtain ⟨v, hB, hI⟩ := HH.out.1
  obtain ⟨Af, cf, hvf, hcf1, hcf2, hrowf⟩ := hI.frozen
  have hvl : v.frozen = .slice Af s.frozen.length cf := by injection hvf
  have y9 : w1.cell? ⟨g, 9, none⟩ = some v.frozen := (hB.ext hb1).cell 9
  rw [hvl] at y9
  have HSP := Lib.hid (show releaseS s r = (if idxI (relB r) s.frozen < 0 then (s, 4) else if r.range.owner = s.self ∨ r.range.owner < 1 ∨ s.nodes < r.range.owner ∨ r.range.epoch ≤ ((s.frozen.map Rec.range).getD (idxI (relB r) s.frozen).toNat zeroRange).epoch then (s, 1) else if (setR s.ring r.range).2 ≠ 0 then (s, (setR s.ring r.range).2) else ({ s with ring := (setR s.ring r.range).1, frozen := s.frozen.eraseIdx (idxI (relB r) s.frozen).toNat, table := dropT (freshT s.table) r.range }, 0)) from rfl)
  have C1 := idxF_Rec 168 [.pointer (some ⟨w.heap.size, 0, none⟩)] (relB r) enters_release Af cf s.frozen P w1 (hrowf.ext hb1) (by have := HH.out.2.2.1.frozen; omega) (fun a cs W' _ ha hb' => by
    obtain ⟨nA', nc', pA', pc', sA', sc', rfl, _⟩ := rec_rep.1 ha
    exact relHas_any w.heap.size r nA pA sA nc pc sc a nA' pA' sA' nc' pc' sc' W' (B0.ext hb'))
  have hbd := idxI_bd (relB r) s.frozen
  generalize idxI (relB r) s.frozen = i at *
  have HV := Lib.hid (And.intro hB (And.intro hI (And.intro hvl (And.intro hrowf hcf2))))
  have H1 := Lib.hid (And.intro hb1 (And.intro B0 hs1))
  clear hB hI hvf hcf1 hcf2 hrowf hvl hb1 B0 hs1
  go_wp2_with fail
  refine C1.mono ?_
  clear C1 y9
  rintro e w2 ⟨rfl, hb2⟩
  have HB2 := Lib.hid (And.intro (H1.out.1.tr hb2) (H1.out.2.1.ext hb2))
  clear hb2
  by_cases hi : i < 0
  · have HE := Lib.hid (HSP.out.trans (if_pos hi))
    go_wp2_with fail
    go_ret
    unfold StOut
    rw [HE.out]
    obtain ⟨v', a1, a2⟩ := HH.out.1
    exact ⟨rfl, ⟨v', a1.ext HB2.out.1, (a2.same (Same.of_below HB2.out.1)).mono fun k hk => .inl hk⟩, Only.of_below HB2.out.1⟩
  have HE := Lib.hid (HSP.out.trans (if_neg hi))
  obtain ⟨k, rfl⟩ : ∃ k : Nat, i = k := ⟨i.toNat, by omega⟩
  have hkl : k < s.frozen.length := by omega
  have hlk := List.getElem?_eq_getElem hkl
  obtain ⟨bb, o, mA, mc, qA, qc, tA, tc, hAf, hbw, hrec, hcs⟩ := recs_at (HV.out.2.2.2.1.ext HB2.out.1) hlk
  have hgd : (s.frozen.map Rec.range).getD ((k : Int)).toNat zeroRange = s.frozen[k].range := by simp [hkl]
  rw [hgd, Int.toNat_natCast] at HE
  generalize s.frozen[k] = f at *
  have hi' : decide ((k : Int) < 0) = false := decide_eq_false hi
  have hkl' : (k : Int) < s.frozen.length := by omega
  have hk0 : 0 ≤ ((k : Nat) : Int) := Int.natCast_nonneg _
  have x16 : w2.cell? ⟨bb, o + k * 18 + 16, none⟩ = some (.int .i64 f.range.epoch) := hcs 16 _ rfl
  have z15 : w2.cell? ⟨w.heap.size, 15, none⟩ = some (.int .i64 r.range.owner) := HB2.out.2.cell 15
  have z16 : w2.cell? ⟨w.heap.size, 16, none⟩ = some (.int .i64 r.range.epoch) := HB2.out.2.cell 16
  have y0 : w2.cell? ⟨g, 0, none⟩ = some (.int .i64 s.self) := (HV.out.1.ext HB2.out.1).cell 0
  have y1 : w2.cell? ⟨g, 1, none⟩ = some (.int .i64 s.nodes) := (HV.out.1.ext HB2.out.1).cell 1
  have y9 : w2.cell? ⟨g, 9, none⟩ = some v.frozen := (HV.out.1.ext HB2.out.1).cell 9
  rw [HV.out.2.2.1, hAf] at y9
  have HAF := Lib.hid hAf
  clear hgd hlk hrec hcs hi hAf hbd
  go_upto_region 4 with fail
  have hcase : r.range.owner = s.self ∨ (r.range.owner ≠ s.self ∧ r.range.owner < 1) ∨ (r.range.owner ≠ s.self ∧ ¬ r.range.owner < 1 ∧ s.nodes < r.range.owner) ∨ (r.range.owner ≠ s.self ∧ ¬ r.range.owner < 1 ∧ ¬ s.nodes < r.range.owner ∧ r.range.epoch ≤ f.range.epoch) ∨ (r.range.owner ≠ s.self ∧ ¬ r.range.owner < 1 ∧ ¬ s.nodes < r.range.owner ∧ ¬ r.range.epoch ≤ f.range.epoch) := by omega
  rcases hcase with h1 | ⟨h1, h3⟩ | ⟨h1, h3, h4⟩ | ⟨h1, h3, h4, h5⟩ | ⟨h1, h3, h4, h5⟩
  · have HE2 := Lib.hid (HE.out.trans (if_pos (.inl h1)))
    have g1 : (r.range.owner == s.self) = true := beq_iff_eq.2 h1
    go_quiet (fail)
    go_wp2_with fail
    go_ret
    unfold StOut
    rw [HE2.out]
    obtain ⟨v', a1, a2⟩ := HH.out.1
    exact ⟨rfl, ⟨v', a1.ext (HB2.out.1.drewN _), (a2.same (Same.of_below (HB2.out.1.drewN _))).mono fun k hk => .inl hk⟩, Only.of_below (HB2.out.1.drewN _)⟩
  · have HE2 := Lib.hid (HE.out.trans (if_pos (.inr (.inl h3))))
    have g1 : (r.range.owner == s.self) = false := beq_eq_false_iff_ne.2 h1
    go_quiet (fail)
    go_wp2_with fail
    go_ret
    unfold StOut
    rw [HE2.out]
    obtain ⟨v', a1, a2⟩ := HH.out.1
    exact ⟨rfl, ⟨v', a1.ext (HB2.out.1.drewN _), (a2.same (Same.of_below (HB2.out.1.drewN _))).mono fun k hk => .inl hk⟩, Only.of_below (HB2.out.1.drewN _)⟩
  · have HE2 := Lib.hid (HE.out.trans (if_pos (.inr (.inr (.inl h4)))))
    have g1 : (r.range.owner == s.self) = false := beq_eq_false_iff_ne.2 h1
    have g3 := decide_eq_false h3
    go_quiet (fail)
    go_wp2_with fail
    go_ret
    unfold StOut
    rw [HE2.out]
    obtain ⟨v', a1, a2⟩ := HH.out.1
    exact ⟨rfl, ⟨v', a1.ext (HB2.out.1.drewN _), (a2.same (Same.of_below (HB2.out.1.drewN _))).mono fun k hk => .inl hk⟩, Only.of_below (HB2.out.1.drewN _)⟩
  · have HE2 := Lib.hid (HE.out.trans (if_pos (.inr (.inr (.inr h5)))))
    have g1 : (r.range.owner == s.self) = false := beq_eq_false_iff_ne.2 h1
    have g3 := decide_eq_false h3
    have g4 : decide (s.nodes < r.range.owner) = false := decide_eq_false h4
    go_quiet (fail)
    go_wp2_with fail
    go_ret
    unfold StOut
    rw [HE2.out]
    obtain ⟨v', a1, a2⟩ := HH.out.1
    exact ⟨rfl, ⟨v', a1.ext (HB2.out.1.drewN _), (a2.same (Same.of_below (HB2.out.1.drewN _))).mono fun k hk => .inl hk⟩, Only.of_below (HB2.out.1.drewN _)⟩
  have HE2 := Lib.hid (HE.out.trans (if_neg (by omega)))
  have g1 : (r.range.owner == s.self) = false := beq_eq_false_iff_ne.2 h1
  have g3 := decide_eq_false h3
  have g4 : decide (s.nodes < r.range.owner) = false := decide_eq_false h4
  have g5 := decide_eq_false h5
  clear h1 h3 h4 h5
  go_quiet (fail)
  clear x16 z15 z16 y0 y1 y9 g1 g3 g4 g5
  have hb3 : Below w2.heap.size w2 (w2.drewN nq) := (Below.refl _ _).drewN _
  generalize hw3 : w2.drewN nq = w3 at *
  have HB3 := Lib.hid (And.intro (HB2.out.1.tr hb3) (HB2.out.2.ext hb3))
  clear hw3 hb3
  obtain ⟨Ar, cr, hvr, hc1, hc2, hrow⟩ := HV.out.2.1.ring
  have hvrl : v.ring = .slice Ar s.ring.length cr := by injection hvr
  go_upto_region 6 with fail
  have y4 : w3.cell? ⟨g, 4, none⟩ = some v.ring := (HV.out.1.ext HB3.out.1).cell 4
  rw [hvrl] at y4
  have y4 := On.cell y4
  have z13 := On.cell (HB3.out.2.cell 13 : w3.cell? ⟨w.heap.size, 13, none⟩ = some (.int .i64 r.range.first))
  have z14 := On.cell (HB3.out.2.cell 14 : w3.cell? ⟨w.heap.size, 14, none⟩ = some (.int .i64 r.range.last))
  have z15 := On.cell (HB3.out.2.cell 15 : w3.cell? ⟨w.heap.size, 15, none⟩ = some (.int .i64 r.range.owner))
  have z16 := On.cell (HB3.out.2.cell 16 : w3.cell? ⟨w.heap.size, 16, none⟩ = some (.int .i64 r.range.epoch))
  have hlo := Below.refl w3.heap.size w3
  have CS := setRing_any Ar cr s.ring r.range P w3.drew (hrow.ext HB3.out.1.drew) (by omega) HH.out.2.2.2.1.range
  unfold GotSplit at CS
  generalize setR s.ring r.range = sp at CS HE2
  obtain ⟨ring', code⟩ := sp
  dsimp only at CS HE2
  have HE2 := Lib.hid HE2.out
  clear hvr hvrl hc1 hc2 hrow
  refine wp_region_mix (.seg [0, 1, 2, 3, 4, 5] 6 (.leaf [7, 8, 9, 10, 11])) (fun w' => ∃ d : Wd (On w3), w' = d.w) (by kernel_rfl) (by kernel_rfl) (fun _ _ d _ _ h => by cases d <;> exact h) (ClsW.mk hlo.drew) ?_
  unfold wpMix; simp only [pick, p1, p2, p3, p4]
  (repeat (show wpQuiet _ _ _ _ (_ :: _) _; go_big_quiet_step (fail))); refine qn ?_
  go_wp2_with fail
  refine CS.mono ?_
  clear CS
  rintro e w4 ⟨⟨v4, rfl, ho4⟩, hb4'⟩
  have hb4 : Below w3.heap.size w3 w4 := hlo.drew.tr hb4'
  obtain ⟨A4, c4, hv4, hc41, hc42⟩ := ho4.form
  subst hv4
  have HO4 := Lib.hid (And.intro ho4 (And.intro hc41 hc42))
  have HB4 := Lib.hid (And.intro (HB3.out.1.tr hb4) (HB3.out.2.ext hb4))
  clear ho4 hb4' hc41 hc42
  go_wp2_with fail
  (dsimp only [wpList, SegQ]; refine ⟨fun w' => ∃ d : Wd (On w3), w' = d.w, ClsW.mk (hb4), fun _ h => h, ?_⟩; unfold wpMix; simp only [pick, p1, p2, p3, p4]; (repeat (show wpQuiet _ _ _ _ (_ :: _) _; go_big_quiet_step (fail))); refine qn ?_)
  clear y4 z13 z14 z15 z16 hlo hb4
  by_cases hcode : code = 0
  rotate_left
  · have HE3 := Lib.hid (HE2.out.trans (if_pos hcode))
    have hc1 : (code != 0) = true := bne_iff_ne.2 hcode
    clear hcode
    go_wp2_with fail
    go_ret
    unfold StOut
    rw [HE3.out]
    obtain ⟨v', a1, a2⟩ := HH.out.1
    exact ⟨rfl, ⟨v', a1.ext HB4.out.1, (a2.same (Same.of_below HB4.out.1)).mono fun k hk => .inl hk⟩, Only.of_below HB4.out.1⟩
  have HE3 := Lib.hid (HE2.out.trans (if_neg (by simp [hcode])))
  subst hcode
  have y9 : w4.cell? ⟨g, 9, none⟩ = some v.frozen := (HV.out.1.ext HB4.out.1).cell 9
  rw [HV.out.2.2.1] at y9
  have CC := clone_Rec Af cf s.frozen P w4 (HV.out.2.2.2.1.ext HB4.out.1) (by have := HH.out.2.2.1.frozen; omega)
  unfold GotOwn at CC
  go_wp2_with fail
  refine CC.mono ?_
  clear CC y9
  rintro e w5 ⟨⟨v5, rfl, ho5⟩, hb5⟩
  have CD := delete_any v5 s.frozen k w4.heap.size _ w5 ho5 hkl HH.out.2.2.1.frozen
  have hz4 := HB4.out.1.size
  have HB5 := Lib.hid hb5
  have HO5 := Lib.hid (And.intro ho5 (And.intro (HB4.out.1.tr hb5) (HB4.out.2.ext hb5)))
  clear ho5 hb5
  go_wp2_with fail
  have hwr : wrap64 ((k : Int) + 1) = (k : Int) + 1 := wrap_in _ (by have := HH.out.2.2.1.frozen; omega)
  rw [hwr]
  refine CD.mono ?_
  clear CD hwr
  rintro e w6 ⟨v6, rfl, ho6, hO6⟩
  have hOn : ∀ q, v5.ownBlock = some q → w4.heap.size ≤ q := fun q hq => (HO5.out.1.lt q hq).1
  have hg6 : ¬ v5.ownBlock = some g := fun e => by have := hOn g e; omega
  have hBg6 := (HV.out.1.ext HO5.out.2.1).only hO6 hg6
  have hBx6 := HO5.out.2.2.only hO6 (fun e => by have := hOn _ e; have := HB4.out.2.lt; omega)
  have h46 : Below w.heap.size w w6 := HO5.out.2.1.trans (hO6.low (fun q e => by have := hOn q e; omega) HO5.out.2.1.size)
  have y4 : w6.cell? ⟨g, 4, none⟩ = some v.ring := hBg6.cell 4
  have f4 := hBg6.frozen 4
  have y9 : w6.cell? ⟨g, 9, none⟩ = some v.frozen := hBg6.cell 9
  have f9 := hBg6.frozen 9
  obtain ⟨A6, c6, hv6, hc61, hc62⟩ := ho6.form
  subst hv6
  have hrow4 := (((HO4.out.1.row' range_plain (P := fun k => w.heap.size ≤ k ∧ k < w4.heap.size) fun q hq => by
    have h1 := HO4.out.1.lt q hq
    have h2 := HB3.out.1.size
    have h3 : w3.drew.heap.size = w3.heap.size := rfl
    omega).same (Same.of_below HB5.out) HB5.out.size).same (w' := w6) (Same.of_only hO6 fun k hk e => by have := hOn k e; have := hk.2; omega) hO6.size)
  have hrow6 := ho6.row (fun q hq => .inl hq)
  have H6 := Lib.hid (And.intro hBg6 (And.intro hBx6 (And.intro h46 (And.intro hc61 (And.intro hc62 (And.intro hrow4 hrow6))))))
  have hz6 := h46.size
  have hlf : ((s.frozen.eraseIdx k).length : Nat) = (s.frozen.eraseIdx k).length := rfl
  generalize hfz : s.frozen.eraseIdx k = frozen' at *
  clear hlf ho6 hBg6 hBx6 h46 hc61 hc62 hO6 hrow4 hrow6 hOn hg6
  go_upto_region 10 with fail
  have hI6 := HV.out.2.1.same (Same.of_below H6.out.2.2.1)
  have hO7 : Only (· = g) w6 (w6.setCell ⟨g, 4, none⟩ (.slice A4 ring'.length c4)) := Only.set_ (F := (· = g)) rfl _
  have hO8 : Only (· = g) w6 ((w6.setCell ⟨g, 4, none⟩ (.slice A4 ring'.length c4)).setCell ⟨g, 9, none⟩ (.slice A6 frozen'.length c6)) := hO7.tr (Only.set_ (F := (· = g)) rfl _)
  have hI8 := (hI6.same (Same.of_only hO8 fun k hk e => HH.out.2.1 (e ▸ hk))).mono (Q := fun k => P k ∨ w.heap.size ≤ k) fun k hk => .inl hk
  have hst8 : StAt ((w6.setCell ⟨g, 4, none⟩ (.slice A4 ring'.length c4)).setCell ⟨g, 9, none⟩ (.slice A6 frozen'.length c6)) (fun k => P k ∨ w.heap.size ≤ k) g { s with ring := ring', frozen := frozen' } := by
    refine ⟨{ v with ring := .slice A4 ring'.length c4, frozen := .slice A6 frozen'.length c6 }, (H6.out.1.set_ 4 _).set_ 9 _, { hI8 with ring := ⟨A4, c4, rfl, HO4.out.2.1, HO4.out.2.2, ?_⟩, frozen := ⟨A6, c6, rfl, H6.out.2.2.2.1, H6.out.2.2.2.2.1, ?_⟩ }⟩
    · exact (H6.out.2.2.2.2.2.1.same (Same.of_only hO8 fun k hk e => by have e' : k = g := e; have := hk.1; omega) hO8.size).mono fun k hk _ => .inr hk.1
    · refine (H6.out.2.2.2.2.2.2.same (Same.of_only hO8 fun k hk e => ?_) hO8.size).mono fun k hk _ => ?_
      · have e' : k = g := e
        rcases hk with h | h
        · omega
        · exact HH.out.2.1 (e' ▸ h)
      · rcases hk with h | h
        · exact .inr (by omega)
        · exact .inl h
  have hBx8 := H6.out.2.1.only hO8 (fun e => by have e' : w.heap.size = g := e; omega)
  have hT8 := (HH.out.2.2.2.2.below H6.out.2.2.1).only hO8 (by intro e; have e' : 0 = g := e; omega) (by intro e; have e' : 1 = g := e; omega)
  have hz8 := hO8.size
  have hOw8 : Only (· = g) w _ := (Only.of_below H6.out.2.2.1).tr hO8
  generalize hw8 : ((w6.setCell ⟨g, 4, none⟩ (.slice A4 ring'.length c4)).setCell ⟨g, 9, none⟩ (.slice A6 frozen'.length c6)) = w8 at *
  have hst8 : StAt w8 (fun k => (P k ∨ w.heap.size ≤ k) ∧ k < w8.heap.size) g { s with ring := ring', frozen := frozen' } := by obtain ⟨v', a1, a2⟩ := hst8; exact ⟨v', a1, a2.low⟩
  have CF := fresh_any g { s with ring := ring', frozen := frozen' } (fun k => (P k ∨ w.heap.size ≤ k) ∧ k < w8.heap.size) w8 hst8 (fun h => by rcases h.1 with h | h; exact HH.out.2.1 h; omega) HH.out.2.2.1.fair.len HH.out.2.2.1.fair.each HH.out.2.2.1.fair.put hT8 (by omega)
  unfold FreshOut ptrV at CF
  have H8 := Lib.hid (And.intro hst8 (And.intro hBx8 (And.intro hT8 hOw8)))
  have hzz : w.heap.size < w8.heap.size := hBx8.lt
  clear hw8 hI6 hI8 hO7 hO8 hst8 hBx8 hT8 hOw8 y4 f4 y9 f9
  go_wp2_with fail
  refine CF.mono ?_
  clear CF
  rintro e w9 ⟨rfl, ⟨v9, hB9, hT9, hR9⟩, hO9, _⟩
  have hz9 := hO9.size
  have hBx9 := H8.out.2.1.only hO9 (fun e => by have e' : w.heap.size = g := e; omega)
  have H9 := Lib.hid (And.intro hT9 (And.intro hR9 (H8.out.2.2.2.tr hO9)))
  have hD : InD g w.heap.size { s with ring := ring', frozen := frozen', table := freshT s.table } v9 r nA nc pA pc sA sc w9 := ⟨hB9, hBx9⟩
  clear hB9 hT9 hR9 hO9 hBx9
  haveI : Nonempty (Wd (InD g w.heap.size { s with ring := ring', frozen := frozen', table := freshT s.table } v9 r nA nc pA pc sA sc)) := ⟨⟨_, hD⟩⟩
  have y5 := InD.c5 (g := g) (nb := w.heap.size) (s := { s with ring := ring', frozen := frozen', table := freshT s.table }) (v := v9) (r := r) (nA := nA) (nc := nc) (pA := pA) (pc := pc) (sA := sA) (sc := sc)
  have z13 := InD.r13 (g := g) (nb := w.heap.size) (s := { s with ring := ring', frozen := frozen', table := freshT s.table }) (v := v9) (r := r) (nA := nA) (nc := nc) (pA := pA) (pc := pc) (sA := sA) (sc := sc)
  have z14 := InD.r14 (g := g) (nb := w.heap.size) (s := { s with ring := ring', frozen := frozen', table := freshT s.table }) (v := v9) (r := r) (nA := nA) (nc := nc) (pA := pA) (pc := pc) (sA := sA) (sc := sc)
  have z15 := InD.r15 (g := g) (nb := w.heap.size) (s := { s with ring := ring', frozen := frozen', table := freshT s.table }) (v := v9) (r := r) (nA := nA) (nc := nc) (pA := pA) (pc := pc) (sA := sA) (sc := sc)
  have z16 := InD.r16 (g := g) (nb := w.heap.size) (s := { s with ring := ring', frozen := frozen', table := freshT s.table }) (v := v9) (r := r) (nA := nA) (nc := nc) (pA := pA) (pc := pc) (sA := sA) (sc := sc)
  go_upto_region 11 with fail
  refine wp_region_mix (.seg [0, 1, 2, 3, 4, 5] 6 (.leaf [])) (fun w' => ∃ d : Wd (InD g w.heap.size { s with ring := ring', frozen := frozen', table := freshT s.table } v9 r nA nc pA pc sA sc), w' = d.w) (by kernel_rfl) (by kernel_rfl) (fun _ _ d _ _ h => by cases d <;> exact h) (ClsW.mk (D := InD g w.heap.size { s with ring := ring', frozen := frozen', table := freshT s.table } v9 r nA nc pA pc sA sc) hD.drew) ?_
  unfold wpMix; simp only [pick, p1, p2, p3, p4]
  (repeat (show wpQuiet _ _ _ _ (_ :: _) _; go_big_quiet_step (fail))); refine qn ?_
  have CD := drop_any v9.tb (freshT s.table) r.range (fun k => w8.heap.size ≤ k ∧ k < w9.heap.size) w9.drew (H9.out.1.ext (Below.refl _ _).drew) hfl
  unfold ptrV at CD
  go_wp2_with fail
  refine CD.mono ?_
  clear CD
  rintro e w10 ⟨⟨n10, rfl⟩, hT10, hO10⟩
  have hz10 := hO10.size
  have hzd : w9.drew.heap.size = w9.heap.size := rfl
  have hD10 := hD.drew.only hO10 (fun h => by have := h.1; omega) (fun h => by have := h.1; omega)
  have hO9d : Only (fun k => w8.heap.size ≤ k ∧ k < w9.heap.size) w9 w10 := (Only.of_below (Below.refl _ w9).drew).trans hO10 fun q hq h => h.1
  have H10 := Lib.hid (And.intro hT10 (And.intro hO9d hD10.st))
  clear hT10 hO10 hO9d
  go_wp2_with fail
  dsimp only [wpList, SegQ]
  refine ⟨fun w' => ∃ d : Wd (InD g w.heap.size { s with ring := ring', frozen := frozen', table := freshT s.table } v9 r nA nc pA pc sA sc), w' = d.w, ClsW.mk (D := InD g w.heap.size { s with ring := ring', frozen := frozen', table := freshT s.table } v9 r nA nc pA pc sA sc) hD10, fun _ h => h, ?_⟩
  unfold wpMix; simp only [pick, p2]
  (repeat (show wpQuiet _ _ _ _ (_ :: _) _; go_big_quiet_step (fail))); refine qn ?_
  clear y5 z13 z14 z15 z16 hD hD10
  go_wp2_with fail
  go_ret
  unfold StOut
  rw [HE3.out]
  refine ⟨rfl, ⟨v9, H10.out.2.2, StRest.full (s := { s with ring := ring', frozen := frozen', table := dropT (freshT s.table) r.range }) ?_ (H10.out.1.mono fun k hk => ?_)⟩, ?_⟩
  · have h1 := (H9.out.2.1.same (Same.of_only H10.out.2.1 fun k hk e => by have := e.1; have := hk.2; omega)).mono (Q := fun k => P k ∨ w.heap.size ≤ k) fun k hk _ => hk.1
    exact ⟨h1.fit, h1.ring, h1.held, h1.outcomes, h1.decided, h1.frozen, h1.log⟩
  · exact .inr (by have := hk.1; omega)
  · exact H9.out.2.2.trans H10.out.2.1 fun q hq h => by have := h.1; omega
end Go.Proofs.YtpgocpodhamibaaGreatDoor
namespace Go.Proofs.YtpgocpodhamibaaGreatDoor
open Go.RowKit

theorem doS_11 {s : St} {r : Rec} (h : r.kind = 11) : doS s r = releaseS s r := by unfold doS; rw [h]; rfl
set_option maxRecDepth 20000 in
set_option maxHeartbeats 3200000 in
theorem applyK_11 (g : Nat) (s : St) (r : Rec) (nA pA sA : Option Addr) (nc pc sc : Nat) (P Q : Nat → Prop) (w : World) (h : StAt w P g s) (hg : ¬ P g) (hS : Fit s)
    (hr : RecAt w Q r nA nc pA pc sA sc) (hF : r.Fair) (hT : Tabs w) (h2 : 2 ≤ g) (hrl : s.ring.length ≤ 300) (hfl : (freshT s.table).length ≤ 40000) (h3 : r.kind = 11) :
    Calls Tryz.prog 17 #[ptrV g, .agg (r.cells nA nc pA pc sA sc).toArray] w (StOut w P g (applyS s r)) := by
  have hgl := h.lt
  have HH := Lib.hid (And.intro h (And.intro hg (And.intro hS (And.intro hr (And.intro hF hT)))))
  clear h hg hS hr hF hT
  have hb1 := (Below.refl w.heap.size w).al (.cells (r.cells nA nc pA pc sA sc).toArray 43)
  have B0 := Blk.new w 43 (r.cells nA nc pA pc sA sc)
  have hs1 : (w.alloc (.cells (r.cells nA nc pA pc sA sc).toArray 43)).heap.size = w.heap.size + 1 := by simp
  unfold ptrV
  go_enter Tryz.func17, Tryz.ntmps17
  go_upto_region 1 with fail
  refine forget (M := fun W => Code.wp _ _ _ _ W) (fun W => Below w.heap.size w W ∧ Blk W w.heap.size 43 (r.cells nA nc pA pc sA sc) ∧ W.heap.size = w.heap.size + 1) ⟨hb1, B0, hs1⟩ ?_
  clear B0 hb1 hs1
  rintro w1 ⟨hb1, B0, hs1⟩
  obtain ⟨v, hB, hI⟩ := HH.out.1
  have C1 := gone_any g s.self w1 ((hB.ext hb1).cell 0) HH.out.2.2.1.self
  have C2 := recCheck_any r nA pA sA nc pc sc Q w1 (HH.out.2.2.2.1.ext (Same.of_below hb1) hb1.size) HH.out.2.2.2.2.1 (HH.out.2.2.2.2.2.below hb1) (by omega)
  unfold ptrV at C1
  have H1 := Lib.hid (And.intro hb1 hs1)
  clear hB hI hb1
  go_wp2_with fail
  refine C1.mono ?_
  clear C1
  rintro e w' ⟨rfl, rfl⟩
  go_wp2_with (first
    | ((with_reducible refine wpList_load_blk rfl rfl ?_ B0 Tryz.underlying43 rfl (by kernel_rfl) ?_); · rfl)
    | fail)
  refine C2.mono ?_
  clear C2
  rintro e w2 ⟨rfl, hb2⟩
  have B2 := B0.ext hb2
  have hw2 := H1.out.1.tr hb2
  by_cases hc : checkR r = 0
  · have h8 : r.kind = 11 := h3
    have HC := Lib.hid (show applyS s r = releaseS s r from by unfold applyS; rw [if_neg (by rw [hc]; simp)]; exact doS_11 h8)
    rw [hc]
    have x0 : w2.cell? ⟨w.heap.size, 0, none⟩ = some (.int .i64 r.kind) := B2.cell 0
    rw [h8] at x0
    obtain ⟨v, hB, hI⟩ := HH.out.1
    have C3 := release_any g s r nA pA sA nc pc sc P (fun k => Q k ∧ k < w.heap.size) w2 ⟨v, hB.ext hw2, hI.same (Same.of_below hw2)⟩ HH.out.2.1 HH.out.2.2.1
      ((HH.out.2.2.2.1.mono fun k h h' => (⟨h, h'⟩ : Q k ∧ k < w.heap.size)).ext (Same.of_below hw2) hw2.size) hrl hfl (HH.out.2.2.2.2.2.below hw2) h2
    unfold ptrV at C3
    have H2 := Lib.hid hw2
    clear hc hB hI hb2 hw2 B0 h3 h8
    go_wp2_with (first
      | ((with_reducible refine wpList_load_blk rfl rfl ?_ B2 Tryz.underlying43 rfl (by kernel_rfl) ?_); · rfl)
      | fail)
    refine C3.mono ?_
    clear C3 x0 B2
    rintro e w3 ⟨rfl, hst, hO⟩
    have H3 := Lib.hid (And.intro hst hO)
    clear hst hO
    go_wp2_with fail
    go_ret
    unfold StOut
    rw [HC.out]
    obtain ⟨v', a1, a2⟩ := H3.out.1
    exact ⟨rfl, ⟨v', a1, a2.mono fun k hk => by
      rcases hk with h | h
      · exact .inl h
      · exact .inr (by have := H2.out.size; omega)⟩, (Only.of_below H2.out).tr H3.out.2⟩
  · have HC := Lib.hid (show applyS s r = (s, checkR r) from by unfold applyS; rw [if_pos hc])
    have hc' : (checkR r != 0) = true := bne_iff_ne.2 hc
    obtain ⟨v, hB, hI⟩ := HH.out.1
    have H3 := Lib.hid (And.intro (⟨v, hB.ext hw2, hI.same (Same.of_below hw2)⟩ : StAt w2 P g s) hw2)
    clear hc hB hI hb2 hw2 B0 B2 h3
    go_wp2_with fail
    go_ret
    unfold StOut
    rw [HC.out]
    obtain ⟨v', a1, a2⟩ := H3.out.1
    exact ⟨rfl, ⟨v', a1, a2.mono fun k hk => .inl hk⟩, Only.of_below H3.out.2⟩

theorem sizeR_put {r : Rec} (h : sizeR r ≤ 20000) : PutFair r.streams := by
  obtain ⟨h1, h2, h2'⟩ := sizeB_sum r.batch
  have h3 := sizeSs_bd r.streams
  obtain ⟨h4, h5, h6⟩ := weights_bd r.streams
  have h7 : (0 : Int) ≤ (sumD r.batch.puts : Int) := Int.natCast_nonneg _
  unfold sizeR at h
  exact ⟨by omega, fun s hs => by have := h6 s hs; omega⟩
theorem applyAll_any (g : Nat) (s : St) (r : Rec) (nA pA sA : Option Addr) (nc pc sc : Nat) (P Q : Nat → Prop) (w : World) (h : StAt w P g s) (hg : ¬ P g) (hS : Fit s)
    (hr : RecAt w Q r nA nc pA pc sA sc) (hQ : ¬ Q g) (hF : r.Fair) (hT : Tabs w) (h2 : 2 ≤ g) (hP : PutFair r.streams) (hrl : s.ring.length ≤ 300) (hfl : (freshT s.table).length ≤ 40000) :
    Calls Tryz.prog 17 #[ptrV g, .agg (r.cells nA nc pA pc sA sc).toArray] w (StOut w P g (applyS s r)) := by
  by_cases hc : r.kind = 9 ∨ r.kind = 10 ∨ r.kind = 11
  · rcases hc with k | k | k
    · exact applyK_9 g s r nA pA sA nc pc sc P Q w h hg hS hr hF hT h2 k
    · exact applyK_10 g s r nA pA sA nc pc sc P Q w h hg hS hr hF hT h2 hQ hP hrl hfl k
    · exact applyK_11 g s r nA pA sA nc pc sc P Q w h hg hS hr hF hT h2 hrl hfl k
  · exact apply_any g s r nA pA sA nc pc sc P Q w h hg hS hr hQ hF hT h2 (by omega)
end Go.Proofs.YtpgocpodhamibaaGreatDoor
namespace Go.Proofs.YtpgocpodhamibaaGreatDoor
open Go.RowKit
set_option maxRecDepth 20000 in
set_option maxHeartbeats 800000 in
theorem sfrozen_any (g : Nat) (s : St) (P : Nat → Prop) (w : World) (h : StAt w P g s) (hs : s.self ≠ 0) (hl : s.frozen.length ≤ 1000000) : Calls Tryz.prog 23 #[ptrV g] w fun e w' => GotOwn RecR w.heap.size 43 (fun k => w.heap.size ≤ k ∨ P k) s.frozen e w' ∧ Below w.heap.size w w' := by
  obtain ⟨v, hB, hI⟩ := h
  have b0 : w.cell? ⟨g, 0, none⟩ = some (.int .i64 s.self) := hB.cell 0
  have b4 : w.cell? ⟨g, 9, none⟩ = some v.frozen := hB.cell 9
  have C1 := gone_any g s.self w b0 hs
  obtain ⟨A, c, hv, hc1, hc2, hrow⟩ := hI.frozen
  have hvl : v.frozen = .slice A s.frozen.length c := by injection hv
  rw [hvl] at b4
  have C2 := clone_Rec A c s.frozen P w hrow (by omega)
  unfold GotOwn at C2
  clear hB hI hv hvl hrow hc1 hc2 hl b0
  unfold ptrV at C1 ⊢
  go_enter Tryz.func23, Tryz.ntmps23
  go_wp2_with fail
  refine C1.mono ?_
  clear C1
  rintro e w' ⟨rfl, rfl⟩
  go_wp2_with fail
  refine C2.mono ?_
  clear C2 b4
  rintro e w' ⟨⟨v2, rfl, hv2⟩, hb2⟩
  have HV := Lib.hid (And.intro hv2 hb2)
  obtain ⟨A2, c2, rfl, _⟩ := hv2.form
  clear hv2 hb2
  go_wp2_with fail
  go_ret
  exact ⟨⟨_, rfl, HV.out.1⟩, HV.out.2⟩
end Go.Proofs.YtpgocpodhamibaaGreatDoor
namespace Go.Proofs.YtpgocpodhamibaaGreatDoor
open Go.RowKit

set_option maxRecDepth 20000 in
set_option maxHeartbeats 1600000 in
theorem rsound_any (A : Option Addr) (c : Nat) (l : List Range) (P : Nat → Prop) (w : World) (hr : RangeR.Row w P A l) (hs : soundR l = true) :
    Calls Tryz.prog 21 #[.slice A l.length c] w fun e w' => e = .returned (.bool true) ∧ Below w.heap.size w w' := by
  have HR := Lib.hid hr; clear hr
  have HL := Lib.hid (sound_iff.1 hs); clear hs
  go_enter Tryz.func21, Tryz.ntmps21
  go_wp2_with fail
  go_loopw [3, 4] (fun nx i wr => ∃ (k : Nat) (n : Int), k ≤ l.length ∧ i = .int .i64 k ∧ nx = .int .i64 n ∧ 0 ≤ n ∧ soundFrom (l.drop k) n = some 4294967296 ∧ Below w.heap.size w wr) (fun _ i _ => l.length - (intOf i).toNat)
  case atStart => exact ⟨0, 0, Nat.zero_le _, rfl, rfl, by omega, HL.out.1, Below.refl _ _⟩
  case round =>
    obtain ⟨k, n, hk, rfl, rfl, hn0, hs, hbl⟩ := hrel
    have HS := Lib.hid hs; clear hs
    by_cases hlt : k < l.length
    · have hlk := List.getElem?_eq_getElem hlt
      have hd := soundFrom_drop l k n hlt
      generalize l[k] = x at hlk hd
      obtain ⟨b, o, cs, rfl, hP, hbw, hrep, hcs⟩ := (HR.out.ext hbl).at_ hlk
      obtain ⟨rfl, hf⟩ := range_rep.1 hrep
      have hok : (x.first = n ∧ n ≤ x.last ∧ x.last ≤ 4294967295 ∧ ownedB x = true) ∧ soundFrom (l.drop (k + 1)) (x.last + 1) = some 4294967296 := by
        have h1 := HS.out
        rw [hd] at h1
        split at h1
        · rename_i h2; exact ⟨h2, h1⟩
        · cases h1
      obtain ⟨⟨h1, h2, h3, h4⟩, h5⟩ := hok
      obtain ⟨h6, h7, h8, h9⟩ := ownedB_iff.1 h4
      subst h1
      have HD := Lib.hid (And.intro (show 0 ≤ x.last + 1 by omega) (And.intro h3 h5))
      have c0 := hcs 0 _ rfl; have c1 := hcs 1 _ rfl; have c2 := hcs 2 _ rfl; have c3 := hcs 3 _ rfl; simp only [RangeR_size, Nat.add_zero] at c0 c1 c2 c3
      clear hd hcs hrep hlk h4 h5
      have hlt' : (k : Int) < l.length := by omega
      have hbx := (Below.refl wr.heap.size wr).al (.cells #[.int .i64 x.first, .int .i64 x.last, .int .i64 x.owner, .int .i64 x.epoch] 40)
      have hWK : Hid (wrap64 ((k : Int) + 1) = ((k + 1 : Nat) : Int)) := Lib.hid (by have := HL.out.2; rw [wrap_in _ (by omega)]; rfl)
      have hxw : Hid (wrap64 (x.last + 1) = x.last + 1) := Lib.hid (wrap_in _ (by have := hf; omega))
      have g2 : decide (x.last < x.first) = false := decide_eq_false (by omega)
      have g3 : decide (4294967295 < x.last) = false := decide_eq_false (by omega)
      have g4 : decide (x.owner < 1) = false := decide_eq_false (by omega)
      have g5 : decide (5 < x.owner) = false := decide_eq_false (by omega)
      have g6 : decide (x.epoch < 1) = false := decide_eq_false (by omega)
      have g7 : decide (1099511627776 < x.epoch) = false := decide_eq_false (by omega)
      clear h2 h3 h6 h7 h8 h9
      go_wp2_with fail
      go_round
      case rel =>
        exact ⟨k + 1, x.last + 1, by omega, by rw [hWK.out], by rw [hxw.out], HD.out.1, HD.out.2.2, hbl.tr hbx⟩
      case measure => rw [hWK.out]; simp [intOf]; omega
    · have hkn : k = l.length := by omega
      subst hkn
      have hs := HS.out
      rw [List.drop_length] at hs
      have hn1 : n = 4294967296 := by injection hs
      clear hs
      subst hn1
      have h64' : (l.length : Int) ≤ 64 := by have := HL.out.2; omega
      go_wp2_with fail
      go_ret
      exact ⟨rfl, hbl⟩

set_option maxRecDepth 20000 in
set_option maxHeartbeats 1600000 in
theorem rfind_any (A : Option Addr) (c : Nat) (l : List Range) (h : Int) (P : Nat → Prop) (w : World) (hr : RangeR.Row w P A l) (hs : soundR l = true) (h0 : 0 ≤ h) (h1 : h < 4294967296) :
    Calls Tryz.prog 24 #[.slice A l.length c, .int .i64 h] w fun e w' => e = .returned (Found (findR l h).1 (findR l h).2) ∧ Below w.heap.size w w' := by
  have hb0 := (Below.refl w.heap.size w).al (.cells #[.int .i64 0, .int .i64 0, .int .i64 0, .int .i64 0] 40)
  have B0 := Blk.new w 40 [.int .i64 0, .int .i64 0, .int .i64 0, .int .i64 0]
  have CS := rsound_any A c l P (w.alloc (.cells #[.int .i64 0, .int .i64 0, .int .i64 0, .int .i64 0] 40)) (hr.ext hb0) hs
  have HR := Lib.hid (hr.mono (Q := fun g => g < w.heap.size) fun g _ h => h); clear hr
  have HS := Lib.hid (And.intro hs (And.intro h0 h1)); clear hs h0 h1
  go_enter Tryz.func24, Tryz.ntmps24
  go_wp2_with fail
  refine CS.mono ?_
  clear CS
  rintro e w1 ⟨rfl, hb1⟩
  have H1 := Lib.hid (And.intro (hb0.tr hb1) (B0.ext hb1))
  clear B0 hb0 hb1
  go_wp2_with fail
  go_loopw [6] (fun i wr => ∃ k : Nat, k ≤ l.length ∧ i = .int .i64 k ∧ (∀ x ∈ l.take k, x.has h = false) ∧ Below w.heap.size w wr ∧ Blk wr w.heap.size 40 [.int .i64 0, .int .i64 0, .int .i64 0, .int .i64 0]) (fun i _ => l.length - (intOf i).toNat)
  case atStart => exact ⟨0, Nat.zero_le _, rfl, by simp, H1.out.1, H1.out.2⟩
  case round =>
    obtain ⟨k, hk, rfl, hno, hw1, B1⟩ := hrel
    have HNO := Lib.hid hno; clear hno
    by_cases hlt : k < l.length
    · have hlk := List.getElem?_eq_getElem hlt
      have hmem : l[k] ∈ l := List.getElem_mem hlt
      have htk : l.take (k + 1) = l.take k ++ [l[k]] := (List.take_append_getElem hlt).symm
      generalize l[k] = x at hlk hmem htk
      obtain ⟨b, o, cs, rfl, hP, hbw, hrep, hcs⟩ := (HR.out.ext hw1).at_ hlk
      obtain ⟨rfl, hf⟩ := range_rep.1 hrep
      have c0 := hcs 0 _ rfl; have c1 := hcs 1 _ rfl; have c2 := hcs 2 _ rfl; have c3 := hcs 3 _ rfl; simp only [RangeR_size, Nat.add_zero] at c0 c1 c2 c3
      have HB := Lib.hid B1
      have HM := Lib.hid (And.intro hmem htk)
      have hWK : Hid (wrap64 ((k : Int) + 1) = ((k + 1 : Nat) : Int)) := Lib.hid (by have := (sound_iff.1 HS.out.1).2; rw [wrap_in _ (by omega)]; rfl)
      clear hrep hcs hlk hmem htk
      have hlt' : (k : Int) < l.length := by omega
      have hne : b ≠ w.heap.size := by omega
      have hcase : (x.first ≤ h ∧ h ≤ x.last) ∨ (x.first ≤ h ∧ ¬ h ≤ x.last) ∨ ¬ x.first ≤ h := by omega
      rcases hcase with ⟨g1, g2⟩ | ⟨g1, g2⟩ | g1
      · have HF := Lib.hid (find_eq HS.out.1 HS.out.2.1 HS.out.2.2 HM.out.1 (has_iff.2 ⟨g1, g2⟩))
        have f0 := B1.frozen 0
        have f1 := B1.frozen 1
        have f2 := B1.frozen 2
        have f3 := B1.frozen 3
        have b0 := B1.cell 0
        have b1 := B1.cell 1
        have b2 := B1.cell 2
        have b3 := B1.cell 3
        simp only [List.getElem?_cons_zero, List.getElem?_cons_succ] at b0 b1 b2 b3
        clear B1
        go_wp2_with fail
        rw [HF.out]
        exact bodyPost_ret (results_blk_tmp rfl _ ((((HB.out.set_ 0 (.int .i64 x.first)).set_ 1 (.int .i64 x.last)).set_ 2 (.int .i64 x.owner)).set_ 3 (.int .i64 x.epoch)) rfl Tryz.underlying40 rfl (by kernel_rfl)) rfl ⟨rfl, (((hw1.st (Nat.le_refl _) _).st (Nat.le_refl _) _).st (Nat.le_refl _) _).st (Nat.le_refl _) _⟩
      · have g2' : decide (h ≤ x.last) = false := decide_eq_false g2
        have HX := Lib.hid (show x.has h = false from by rw [← Bool.not_eq_true, has_iff]; exact fun a => g2 a.2)
        clear g2
        go_wp2_with fail
        go_round
        case rel =>
          refine ⟨k + 1, by omega, by rw [hWK.out], ?_, hw1, HB.out⟩
          rw [HM.out.2]
          intro y hy
          rcases List.mem_append.1 hy with hy | hy
          · exact HNO.out y hy
          · rw [List.mem_singleton.1 hy]; exact HX.out
        case measure => rw [hWK.out]; simp [intOf]; omega
      · have g1' : decide (x.first ≤ h) = false := decide_eq_false g1
        have HX := Lib.hid (show x.has h = false from by rw [← Bool.not_eq_true, has_iff]; exact fun a => g1 a.1)
        clear g1
        go_wp2_with fail
        go_round
        case rel =>
          refine ⟨k + 1, by omega, by rw [hWK.out], ?_, hw1, HB.out⟩
          rw [HM.out.2]
          intro y hy
          rcases List.mem_append.1 hy with hy | hy
          · exact HNO.out y hy
          · rw [List.mem_singleton.1 hy]; exact HX.out
        case measure => rw [hWK.out]; simp [intOf]; omega
    · exfalso
      have hkn : k = l.length := by omega
      subst hkn
      obtain ⟨x, hx, hh⟩ := soundFrom_cover (sound_iff.1 HS.out.1).1 HS.out.2.1 HS.out.2.2
      have := HNO.out x (by rw [List.take_length]; exact hx)
      rw [hh] at this; cases this
end Go.Proofs.YtpgocpodhamibaaGreatDoor
namespace Go.Proofs.YtpgocpodhamibaaGreatDoor
theorem apply_self (s : St) (r : Rec) : (applyS s r).1.self = s.self := by
  unfold applyS
  split
  · rfl
  unfold doS
  repeat' split
  · unfold lifeS; split <;> rfl
  · unfold ceilS; split <;> rfl
  · unfold commitS; split <;> rfl
  · unfold prepareS; repeat' split
    all_goals rfl
  · unfold decideS; split
    · rfl
    · dsimp only; split <;> rfl
  · unfold outcomeS; repeat' split
    all_goals rfl
  · unfold forgetS; split <;> rfl
  · unfold splitS; repeat' split
    all_goals rfl
  · unfold freezeS; repeat' split
    all_goals rfl
  · unfold installS; repeat' split
    all_goals rfl
  · unfold releaseS; dsimp only; repeat' split
    all_goals rfl
theorem frozen_find {s : St} {N : Nat} (h : Inv s N) {f : Rec} (hf : f ∈ s.frozen) : 0 ≤ f.range.first ∧ f.range.first < 4294967296 ∧ findR s.ring f.range.first = (f.range, true) ∧ f.range.owner = s.self ∧ f.to ≠ s.self := by
  obtain ⟨h1, h2, h3⟩ := h.frozen f hf
  have h4 := soundFrom_mem (sound_iff.1 h.ring).1 h1
  exact ⟨by omega, by omega, find_eq h.ring (by omega) (by omega) h1 (has_iff.2 ⟨by omega, by omega⟩), h2, h3⟩
theorem newS_self {self nodes : Int} {s : St} (h : newS self nodes = some s) : s.self = self := by
  unfold newS at h
  split at h
  · cases h
  · injection h with h; subst h; rfl
theorem fresh_few {s : St} {N : Nat} (h : Inv s N) (hN : N ≤ 20100) : (freshT s.table).length ≤ 40000 := by
  have h1 := (fresh_len h.tab).1
  have h2 := h.size
  omega
end Go.Proofs.YtpgocpodhamibaaGreatDoor
