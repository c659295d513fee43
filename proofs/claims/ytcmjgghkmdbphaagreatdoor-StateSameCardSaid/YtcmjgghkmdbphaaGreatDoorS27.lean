/- ring.Set. slices.Delete at records: one element taken out of an owned slice. slices.Delete at records. state.release. state.Apply for any record, in one. state.State.Take: the row lies in new memory. Plain laws of a state that records made: whose it is stays; frozen ranges are found. -/
import Derived.Test.YtcmjgghkmdbphaaGreatDoorS26
import Derived.Test.YtcmjgghkmdbphaaGreatDoorS14
import Derived.Test.YtcmjgghkmdbphaaGreatDoorS03
import Derived.Deep.AppendSrc
import Derived.Test.YtcmjgghkmdbphaaGreatDoorS21
import Derived.Test.YtcmjgghkmdbphaaGreatDoorS13
import Derived.Test.YtcmjgghkmdbphaaGreatDoorS22
import Derived.Test.YtcmjgghkmdbphaaGreatDoorS25
import Derived.Test.YtcmjgghkmdbphaaGreatDoorS24
import Derived.Test.YtcmjgghkmdbphaaGreatDoorS23
set_option maxRecDepth 20000
set_option maxHeartbeats 25600000
namespace Go.Proofs.YtcmjgghkmdbphaaGreatDoor
open Go.RowKit
theorem own_range_set {w : World} {B e : Nat} {v : Value} {l : List Range} {k : Nat} {x r : Range} (h : RangeR.Own w B e (fun _ => False) v l) (hk : l[k]? = some x) (_hx : x.fit) (hf : r.fit) :
 ∃ g c, v = .slice (some ⟨g, 0, none⟩) l.length c ∧ B ≤ g ∧ g < w.heap.size ∧ l.length ≤ c ∧ (∀ j, j < 4 → w.frozen? ⟨g, k * 4 + j, none⟩ = false ∧ ∃ u, w.cell? ⟨g, k * 4 + j, none⟩ = some u) ∧
   RangeR.Own ((((w.setCell ⟨g, k * 4, none⟩ (.int .i64 r.first)).setCell ⟨g, k * 4 + 1, none⟩ (.int .i64 r.last)).setCell ⟨g, k * 4 + 2, none⟩ (.int .i64 r.owner)).setCell ⟨g, k * 4 + 3, none⟩ (.int .i64 r.epoch)) B e (fun _ => False) v (l.set k r) := by
 have hlen := (List.getElem?_eq_some_iff.1 hk).1
 have key : ∀ j, j < 4 → ∃ g c, v = .slice (some ⟨g, 0, none⟩) l.length c ∧ w.frozen? ⟨g, k * 4 + j, none⟩ = false ∧ ∃ u, w.cell? ⟨g, k * 4 + j, none⟩ = some u := fun j hj => by
  obtain ⟨g, c, hv, _, _, _, _, hfz, hx⟩ := h.set_ (k := k) (j := j) (u := x.cells.getD j undef) (a' := x) hk hj (by
   match j, hj with
   | 0, _ => rfl
   | 1, _ => rfl
   | 2, _ => rfl
   | 3, _ => rfl) (fun cs hcs => by
   obtain ⟨rfl, hf⟩ := range_rep.1 hcs
   refine range_rep.2 ⟨?_, hf⟩
   match j, hj with
   | 0, _ => rfl
   | 1, _ => rfl
   | 2, _ => rfl
   | 3, _ => rfl)
  exact ⟨g, c, hv, hfz, hx⟩
 obtain ⟨g, c, hv, hB, hg, hn, h1, _⟩ := h.set_ (k := k) (j := 0) (u := .int .i64 r.first) (a' := { x with first := r.first }) hk (by decide) rfl (fun cs hcs => by
  obtain ⟨rfl, hq⟩ := range_rep.1 hcs
  exact range_rep.2 ⟨rfl, ⟨hf.1, hq.2⟩⟩)
 subst hv
 have inj : ∀ {g' c' n n' : Nat}, (Value.slice (some ⟨g, 0, none⟩) n c : Value) = .slice (some ⟨g', 0, none⟩) n' c' → g' = g := fun e => by
  injection e with e _ _
  injection e with e
  injection e with e _ _
  exact e.symm
 obtain ⟨g1, c1, hv1, _, _, _, h2, _⟩ := h1.set_ (k := k) (j := 1) (u := .int .i64 r.last) (a' := { x with first := r.first, last := r.last }) (List.getElem?_set_self hlen) (by decide) rfl (fun cs hcs => by
  obtain ⟨rfl, hq⟩ := range_rep.1 hcs
  exact range_rep.2 ⟨rfl, ⟨hf.1, hf.2.1, hq.2.2⟩⟩)
 rw [inj hv1, List.set_set] at h2
 obtain ⟨g2, c2, hv2, _, _, _, h3, _⟩ := h2.set_ (k := k) (j := 2) (u := .int .i64 r.owner) (a' := { r with epoch := x.epoch }) (List.getElem?_set_self hlen) (by decide) rfl (fun cs hcs => by
  obtain ⟨rfl, hq⟩ := range_rep.1 hcs
  exact range_rep.2 ⟨rfl, ⟨hf.1, hf.2.1, hf.2.2.1, hq.2.2.2⟩⟩)
 rw [inj hv2, List.set_set] at h3
 obtain ⟨g3, c3, hv3, _, _, _, h4, _⟩ := h3.set_ (k := k) (j := 3) (u := .int .i64 r.epoch) (a' := r) (List.getElem?_set_self hlen) (by decide) rfl (fun cs hcs => by
  obtain ⟨rfl, hq⟩ := range_rep.1 hcs
  exact range_rep.2 ⟨rfl, hf⟩)
 rw [inj hv3, List.set_set] at h4
 exact ⟨g, c, rfl, hB, hg, hn, fun j hj => by
  obtain ⟨g', c', hv', h5⟩ := key j hj
  rw [inj hv'] at h5
  exact h5, h4⟩
theorem setRing_any (A : Option Addr) (c : Nat) (l : List Range) (r : Range) (P : Nat → Prop) (w : World) (hr : RangeR.Row w P A l) (hl : l.length ≤ 1000000) (hf : r.fit) :
 Calls Tryz.prog 195 #[.slice A l.length c, .agg #[.int .i64 r.first, .int .i64 r.last, .int .i64 r.owner, .int .i64 r.epoch]] w fun e w' => GotSplit w.heap.size (setR l r) e w' ∧ Below w.heap.size w w' := by
 have HR := jh (hr.mono (Q := fun g => g < w.heap.size) fun g _ h => h); clear hr
 have hb0 := (jb w.heap.size w).al (.cells #[.int .i64 r.first, .int .i64 r.last, .int .i64 r.owner, .int .i64 r.epoch] 27)
 have B0 := Blk.new w 27 [.int .i64 r.first, .int .i64 r.last, .int .i64 r.owner, .int .i64 r.epoch]
 have HF := jh (show setR l r = (if soundR l = false then ([], 1) else if atR l r.first < 0 ∨ (l.getD (atR l r.first).toNat zeroRange).first ≠ r.first ∨ (l.getD (atR l r.first).toNat zeroRange).last ≠ r.last then ([], 4) else if ownedB r = false then ([], 1) else (l.set (atR l r.first).toNat r, 0)) from rfl)
 have hbd := atR_bd l r.first
 have HFT := jh hf
 clear hf
 go_enter Tryz.func195, Tryz.ntmps195
 go_upto_region 1 with fail
 generalize hw1 : (w.alloc (.cells #[.int .i64 r.first, .int .i64 r.last, .int .i64 r.owner, .int .i64 r.epoch] 27)) = w1 at *
 clear hw1
 have CA := at_any A c l r.first _ w1 (HR.out.ext hb0) hl
 have z0 : w1.cell? ⟨w.heap.size, 0, none⟩ = some (.int .i64 r.first) := B0.cell 0
 have HB := jh (ja hb0 B0)
 clear hb0 B0
 generalize atR l r.first = i at *
 go_wp2_with fail
 refine CA.mono ?_
 clear CA z0
 rintro e w2 ⟨rfl, hb2⟩
 have CS := soundR_any A c l _ w2 ((HR.out.ext HB.out.1).ext hb2) hl
 have HB2 := jh (ja (HB.out.1.tr hb2) (HB.out.2.ext hb2))
 clear hb2
 go_wp2_with fail
 refine CS.mono ?_
 clear CS
 rintro e w3 ⟨rfl, hb3⟩
 have HB3 := jh (ja (HB2.out.1.tr hb3) (HB2.out.2.ext hb3))
 clear hb3
 cases hs : soundR l
 ·have HS := jh hs
  clear hs
  go_wp2_with fail
  go_ret2
  rw [HF.out, if_pos HS.out]
  exact ⟨⟨_, rfl, Rep.Own.nil_⟩, HB3.out.1⟩
 have HF := jh (HF.out.trans (if_neg (by rw [hs]; simp)))
 clear hs
 by_cases hi : i < 0
 ·have HI := jh hi
  go_upto_region 4 with fail
  go_quiet (fail)
  go_wp2_with fail
  go_ret2
  rw [HF.out, if_pos (.inl HI.out)]
  exact ⟨⟨_, rfl, Rep.Own.nil_⟩, HB3.out.1.drewN _⟩
 have HI := jh hi
 have hi' : decide (i < 0) = false := jd hi
 obtain ⟨k, rfl⟩ : ∃ k : Nat, i = k := ⟨i.toNat, by omega⟩
 have hkl : k < l.length := by omega
 have hlk := jg hkl
 have hgd : l.getD ((k : Int)).toNat zeroRange = l[k] := by simp [hkl]
 rw [hgd] at HF
 generalize l[k] = x at *
 obtain ⟨bb, o, cs, rfl, hP, hbw, hrep, hcs⟩ := (HR.out.ext HB3.out.1).at_ hlk
 obtain ⟨rfl, hfx⟩ := range_rep.1 hrep
 have c0 := hcs 0 _ rfl; have c1 := hcs 1 _ rfl; have c2 := hcs 2 _ rfl; have c3 := hcs 3 _ rfl; simp only [RangeR_size, Nat.add_zero] at c0 c1 c2 c3
 have u0 : w3.cell? ⟨w.heap.size, 0, none⟩ = some (.int .i64 r.first) := HB3.out.2.cell 0
 have u1 : w3.cell? ⟨w.heap.size, 1, none⟩ = some (.int .i64 r.last) := HB3.out.2.cell 1
 have HLK := jh (ja hlk hfx)
 have hkl' : (k : Int) < l.length := by omega
 have hk0 : 0 ≤ ((k : Nat) : Int) := Int.natCast_nonneg _
 clear hgd hrep hcs hi hlk hfx hbd
 by_cases h1 : x.first = r.first
 rotate_left
 ·have H1 := jh h1
  have g1 : (x.first != r.first) = true := bne_iff_ne.2 h1
  clear h1
  go_upto_region 4 with fail
  go_quiet (fail)
  go_wp2_with fail
  go_ret2
  rw [HF.out, if_pos (.inr (.inl H1.out))]
  exact ⟨⟨_, rfl, Rep.Own.nil_⟩, HB3.out.1.drewN _⟩
 by_cases h2 : x.last = r.last
 rotate_left
 ·have H2 := jh h2
  have g1 : (x.first != r.first) = false := by simp [h1]
  have g2 : (x.last != r.last) = true := bne_iff_ne.2 h2
  clear h1 h2
  go_upto_region 4 with fail
  go_quiet (fail)
  go_wp2_with fail
  go_ret2
  rw [HF.out, if_pos (.inr (.inr H2.out))]
  exact ⟨⟨_, rfl, Rep.Own.nil_⟩, HB3.out.1.drewN _⟩
 have HF := jh (HF.out.trans (if_neg (by rintro (q | q | q); exact HI.out q; exact q h1; exact q h2)))
 rw [h1] at c0
 rw [h2] at c1
 have H12 := jh (ja h1 h2)
 clear h1 h2
 go_upto_region 4 with fail
 go_quiet (fail)
 clear c0 c1 c2 c3 u0 u1
 have hb4 : Below w3.heap.size w3 (w3.drewN nq) := (jb _ _).drewN _
 generalize hw4 : w3.drewN nq = w4 at *
 have HB4 := jh (ja (HB3.out.1.tr hb4) (HB3.out.2.ext hb4))
 clear hw4 hb4
 have u0 : w4.cell? ⟨w.heap.size, 0, none⟩ = some (.int .i64 r.first) := HB4.out.2.cell 0
 have u1 : w4.cell? ⟨w.heap.size, 1, none⟩ = some (.int .i64 r.last) := HB4.out.2.cell 1
 have u2 : w4.cell? ⟨w.heap.size, 2, none⟩ = some (.int .i64 r.owner) := HB4.out.2.cell 2
 have u3 : w4.cell? ⟨w.heap.size, 3, none⟩ = some (.int .i64 r.epoch) := HB4.out.2.cell 3
 have CO := owned_any r w4
 unfold Range.val at CO
 go_wp2_with fail
 refine CO.mono ?_
 clear CO u0 u1 u2 u3
 rintro e w5 ⟨rfl, hb5⟩
 have HB5 := jh (ja (HB4.out.1.tr hb5) (HB4.out.2.ext hb5))
 clear hb5
 cases ho : ownedB r
 ·have HO := jh ho
  clear ho
  go_wp2_with fail
  go_ret2
  rw [HF.out, if_pos HO.out]
  exact ⟨⟨_, rfl, Rep.Own.nil_⟩, HB5.out.1⟩
 have HF := jh (HF.out.trans (if_neg (by rw [ho]; simp)))
 clear ho
 have CC := clone_Range (some ⟨bb, o, none⟩) c l _ w5 (HR.out.ext HB5.out.1) (by omega)
 unfold GotOwn at CC
 go_wp2_with fail
 refine CC.mono ?_
 clear CC
 rintro e w6 ⟨⟨v6, rfl, ho6⟩, hb6⟩
 have hz5 := HB5.out.1.size
 have ho6 : RangeR.Own w6 w.heap.size 27 (fun _ => False) v6 l := (ho6.plain range_plain).base' hz5
 have H6 := jh (ja (HB5.out.1.tr hb6) (HB5.out.2.ext hb6))
 clear hb6
 obtain ⟨g6, c6, rfl, hB6, hg6, hn6, hcf, hown⟩ := own_range_set ho6 HLK.out.1 HLK.out.2 HFT.out
 obtain ⟨f0, v0, y0⟩ := hcf 0 (by omega)
 obtain ⟨f1, v1, y1⟩ := hcf 1 (by omega)
 obtain ⟨f2, v2, y2⟩ := hcf 2 (by omega)
 obtain ⟨f3, v3, y3⟩ := hcf 3 (by omega)
 simp only [Nat.add_zero] at f0 y0
 have u0 : w6.cell? ⟨w.heap.size, 0, none⟩ = some (.int .i64 r.first) := H6.out.2.cell 0
 have u1 : w6.cell? ⟨w.heap.size, 1, none⟩ = some (.int .i64 r.last) := H6.out.2.cell 1
 have u2 : w6.cell? ⟨w.heap.size, 2, none⟩ = some (.int .i64 r.owner) := H6.out.2.cell 2
 have u3 : w6.cell? ⟨w.heap.size, 3, none⟩ = some (.int .i64 r.epoch) := H6.out.2.cell 3
 have hs2 : (l.set k r).length = l.length := List.length_set
 have HO := jh (ja hown (ja hs2 hB6))
 clear ho6 hcf hown hs2
 go_wp2_with fail
 go_ret2
 rw [HF.out]
 refine ⟨⟨_, rfl, ?_⟩, ?_⟩
 ·have h1 := HO.out.1
  simpa using h1
 ·exact (((H6.out.1.st HO.out.2.2 _).st HO.out.2.2 _).st HO.out.2.2 _).st HO.out.2.2 _
end Go.Proofs.YtcmjgghkmdbphaaGreatDoor
namespace Go.Proofs.YtcmjgghkmdbphaaGreatDoor
open Go.RowKit
section
variable {P : Program} {w : World}
theorem setCells_blk {g e : TypeId} {cur : List Value} (hB : Blk w g e cur) (o : Nat) (vs : List Value) (hl : o + vs.length ≤ cur.length) (h1 : ∀ v ∈ vs, v.oneCell' = true) :
 Blk (w.setCells g o vs) g e (cur.take o ++ vs ++ cur.drop (o + vs.length)) ∧ Only (· = g) w (w.setCells g o vs) := by
 have ha := run_storeCells_cells (P := Tryz.prog) g o vs 0 w (fun j hj => by
  rw [hB.cell, jg (by omega)]; rfl) (fun j hj => hB.frozen _) h1
 have hb := run_storeCells_at Tryz.prog g o e vs 0 cur.toArray w hB (by simpa using hl) h1
 rw [ha] at hb
 simp only [Nat.add_zero] at hb
 have hw : w.setCells g o vs = w.setRow g (cur.take o ++ vs ++ cur.drop (o + vs.length)).toArray := by
  injection hb
 rw [hw]
 refine ⟨?_, ⟨rfl, rfl, rfl, by simp, fun k hk hn => setRow_other w g k _ hn⟩⟩
 have := setRow_heap w g cur.toArray (cur.take o ++ vs ++ cur.drop (o + vs.length)).toArray e (0, 0) hB
 unfold Blk
 simpa using this
theorem wpList_cut_append {ops : Array Oper} {rest : List Oper} {o : Oper} {a : Act} {Q' : Exit → Act → World → Prop} (hgd : o.guard = none) (s x : Operand) (t : TypeId)
 (ho : o.op = .call { callee := .builtin .append, args := #[s, x], argTypes := #[t, t] }) (e : TypeId) (i : TypeInfo) (ht : P.underlying t = some (.slice e)) (hi : P.info? e = some i)
 {g : Nat} {cur : List Value} (hB : Blk w g e cur) (k n c j b : Nat) (hs : a.eval s = .slice (some ⟨g, 0, none⟩) k c) (c' : Nat) (hx : a.eval x = .slice (some ⟨g, b, none⟩) n c') (hb : 0 < n → b = j * i.size) (hroom : k + n ≤ c) (hc : c * i.size ≤ cur.length) (hjl : (j + n) * i.size ≤ cur.length) (h1 : ∀ u ∈ (cur.drop (j * i.size)).take (n * i.size), u.oneCell' = true)
 (h : ∀ w', Blk w' g e (cur.take (k * i.size) ++ (cur.drop (j * i.size)).take (n * i.size) ++ cur.drop ((k + n) * i.size)) → Only (· = g) w w' → wpList P ops Q' rest (a.put o.dst (.slice (some ⟨g, 0, none⟩) (k + n) c)) w') : wpList P ops Q' (o :: rest) a w := by
 refine wpList_plain hgd fun K hK => ?_
 have hlen : ((cur.drop (j * i.size)).take (n * i.size)).length = n * i.size := by
  rw [List.length_take, List.length_drop]
  rw [Nat.add_mul] at hjl
  omega
 have hkc : (k + n) * i.size ≤ cur.length := Nat.le_trans (Nat.mul_le_mul_right _ hroom) hc
 rw [Nat.add_mul] at hkc
 have hsrc : Src P i.size t (.slice (some ⟨g, b, none⟩) n c') n ((cur.drop (j * i.size)).take (n * i.size)) w := Src.ofSlice w ht ⟨g, b, none⟩ n c' _ hlen (fun q u hu => by
  rw [add_off, hB.cell]
  have hq : q < n * i.size := by have := (List.getElem?_eq_some_iff.1 hu).1; omega
  have hn : 0 < n := by
   rcases Nat.eq_zero_or_pos n with h0 | h0
   ·rw [h0, Nat.zero_mul] at hq; omega
   ·exact h0
  rw [hb hn]
  rw [List.getElem?_take_of_lt hq, List.getElem?_drop] at hu
  exact hu) h1
 have hrun := run_append_room_src w t t o.type e i ht hi g 0 k c (.slice (some ⟨g, b, none⟩) n c') n _ hsrc hroom (fun q hq => by
  rw [hlen] at hq
  rw [hB.cell, jg (by omega)]; rfl) (fun q hq => hB.frozen _)
 obtain ⟨hB', hO'⟩ := setCells_blk hB (0 + k * i.size) ((cur.drop (j * i.size)).take (n * i.size)) (by rw [hlen]; omega) h1
 rw [hlen, Nat.zero_add, ← Nat.add_mul] at hB'
 rw [Nat.zero_add] at hO'
 have hh := h _ hB' hO'
 unfold Oper.wp
 simp [execOp, ho, resolve, invoke, builtin, hs, hx, hrun, Result.andThen]
 exact hK _ _ hh
theorem run_clear_tail (t ty e : TypeId) (z : Value) (ht : P.underlying t = some (.slice e)) (hv : ∀ w, (zeroValue e).run P w = .ok z w) (hz : ∀ v ∈ z.cells.toList, v.oneCell' = true)
 {g : Nat} {cur : List Value} (hB : Blk w g e cur) (off m c : Nat) (hm : 0 < m) (hl : off + m * z.cells.size ≤ cur.length) :
 ∃ w' zs, (Builtin.clear_ #[t] ty #[.slice (some ⟨g, off, none⟩) m c]).run P w = .ok (.tuple #[]) w' ∧ zs.length = m * z.cells.size ∧ Blk w' g e (cur.take off ++ zs ++ cur.drop (off + m * z.cells.size)) ∧ Only (· = g) w w' := by
 obtain ⟨m, rfl⟩ : ∃ k, m = k + 1 := ⟨m - 1, by omega⟩
 have hzl : (Builtin.zeroCells z.cells (m + 1)).toList.length = (m + 1) * z.cells.size := by rw [Array.length_toList, size_zeroCells]
 have hz1 : ∀ v ∈ (Builtin.zeroCells z.cells (m + 1)).toList, v.oneCell' = true := fun v hv => by
  unfold Builtin.zeroCells at hv
  rw [Array.toList_map, List.mem_map] at hv
  obtain ⟨i, hi, rfl⟩ := hv
  have hi' : i < (m + 1) * z.cells.size := by simpa using hi
  have hp : 0 < z.cells.size := by
   rcases Nat.eq_zero_or_pos z.cells.size with h0 | h0
   ·rw [h0, Nat.mul_zero] at hi'; omega
   ·exact h0
  have hm := Nat.mod_lt i hp
  rw [getElem!_pos z.cells _ hm]
  exact hz _ (by simp)
 have hst := run_storeCells_at P g off e (Builtin.zeroCells z.cells (m + 1)).toList 0 cur.toArray w hB (by rw [hzl]; simpa using hl) hz1
 simp only [Nat.add_zero, hzl] at hst
 refine ⟨w.setRow g (cur.take off ++ (Builtin.zeroCells z.cells (m + 1)).toList ++ cur.drop (off + (m + 1) * z.cells.size)).toArray, (Builtin.zeroCells z.cells (m + 1)).toList, by simp [Builtin.clear_, run_underlying ht, hv, hst], hzl, ?_, ⟨rfl, rfl, rfl, by simp, fun k hk hn => setRow_other w g k _ hn⟩⟩
 have := setRow_heap w g cur.toArray (cur.take off ++ (Builtin.zeroCells z.cells (m + 1)).toList ++ cur.drop (off + (m + 1) * z.cells.size)).toArray e (0, 0) hB
 unfold Blk
 simpa using this
end
end Go.Proofs.YtcmjgghkmdbphaaGreatDoor
namespace Go.Proofs.YtcmjgghkmdbphaaGreatDoor
open Go.RowKit
theorem flatten_split {s : Nat} : ∀ {css : List (List Value)}, (∀ cs ∈ css, cs.length = s) → ∀ k, css.flatten.take (k * s) = (css.take k).flatten ∧ css.flatten.drop (k * s) = (css.drop k).flatten
 | [], _, k => by simp
 | c :: r, h, 0 => by simp
 | c :: r, h, k + 1 => by
   have hc := h c (by simp)
   obtain ⟨h1, h2⟩ := flatten_split (css := r) (fun cs hcs => h cs (by simp [hcs])) k
   have e : (k + 1) * s = c.length + k * s := by rw [hc, Nat.succ_mul]; omega
   rw [List.flatten_cons, e, List.take_length_add_append, List.drop_length_add_append, h1, h2]
   simp
theorem zero_rec (w : World) : (zeroValue 46).run Tryz.prog w = .ok (.agg (Rec.cells ⟨0, 0, 0, false, ⟨0, 0, 0⟩, ⟨0, 0, 0⟩, [], ⟨⟨#[]⟩, []⟩, ⟨0, 0, 0, 0⟩, []⟩ none 0 none 0 none 0).toArray) w := by kernel_rfl
theorem flat_erase {α : Type} {R : Rep α} {w : World} {P : Nat → Prop} {xs : List Value} {l : List α} (h : R.flat w P xs l) {i : Nat} (_hi : i < l.length) : R.flat w P (xs.take (i * R.size) ++ xs.drop ((i + 1) * R.size)) (l.eraseIdx i) := by
 obtain ⟨css, rfl, hc, hr⟩ := h
 have hs : ∀ cs ∈ css, cs.length = R.size := fun cs hcs => by
  obtain ⟨k, hk, rfl⟩ := List.getElem_of_mem hcs
  exact R.len (hr k _ _ (jg hk) (jg (by omega)))
 refine ⟨css.eraseIdx i, ?_, by rw [List.length_eraseIdx, List.length_eraseIdx, hc], fun k cs a hk ha => ?_⟩
 ·rw [(flatten_split hs i).1, (flatten_split hs (i + 1)).2, ← List.flatten_append, List.eraseIdx_eq_take_drop_succ]
 ·rw [List.getElem?_eraseIdx] at hk ha
  by_cases hki : k < i
  ·rw [if_pos hki] at hk ha; exact hr k cs a hk ha
  ·rw [if_neg hki] at hk ha; exact hr (k + 1) cs a hk ha
def delC (cl : List Value) (i n : Nat) : List Value := cl.take (i * 18) ++ (cl.drop ((i + 1) * 18)).take (n * 18) ++ cl.drop ((i + n) * 18)
theorem del_cells {cl : List Value} {cap i n : Nat} {z : List Value} (hcl : cl.length = cap * 18) (hn : i + 1 + n ≤ cap) (hz : z.length = 18) :
 (delC cl i n).length = cap * 18 ∧ ((delC cl i n).take ((i + n) * 18) ++ z ++ (delC cl i n).drop ((i + n) * 18 + 18)).length = cap * 18 ∧
 ((delC cl i n).take ((i + n) * 18) ++ z ++ (delC cl i n).drop ((i + n) * 18 + 18)).take ((i + n) * 18) = (cl.take ((i + 1 + n) * 18)).take (i * 18) ++ (cl.take ((i + 1 + n) * 18)).drop ((i + 1) * 18) := by
 have h1 : (delC cl i n).length = cap * 18 := by
  unfold delC
  simp only [List.length_append, List.length_take, List.length_drop, hcl]
  omega
 have h2 : ((delC cl i n).take ((i + n) * 18)).length = (i + n) * 18 := by rw [List.length_take, h1]; omega
 refine ⟨h1, ?_, ?_⟩
 ·simp only [List.length_append, h2, hz, List.length_drop, h1]
  omega
 ·rw [List.append_assoc, List.take_append_of_le_length (by omega), List.take_take, Nat.min_self]
  unfold delC
  have e1 : (cl.take (i * 18) ++ (cl.drop ((i + 1) * 18)).take (n * 18)).length = (i + n) * 18 := by
   simp only [List.length_append, List.length_take, List.length_drop, hcl]
   omega
  rw [List.take_append_of_le_length (by omega), List.take_of_length_le (by omega), List.take_take, List.drop_take, Nat.min_eq_left (by omega)]
  congr 2
  omega
def DelOut (w : World) (v : Value) (B : Nat) (S : Nat → Prop) (l : List Rec) (e : Ending) (w' : World) : Prop := ∃ v', e = .returned v' ∧ RecR.Own w' B 46 S v' l ∧ Only (fun q => v.ownBlock = some q) w w'
theorem delete_any (v : Value) (l : List Rec) (i : Nat) (B : Nat) (S : Nat → Prop) (w : World) (h : RecR.Own w B 46 S v l) (hi : i < l.length) (hl : l.length ≤ 1000000) :
 Calls Tryz.prog 196 #[v, .int .i64 i, .int .i64 ((i : Int) + 1)] w (DelOut w v B S (l.eraseIdx i)) := by
 obtain ⟨xs, ⟨hxl, hd⟩, hflat⟩ := h
 rcases hd with ⟨h0, _⟩ | ⟨g, cap, cur, rfl, hB, hg, hn, hc, hs, ht⟩
 ·omega
 have hBk : Blk w g 46 cur.toList := by unfold Blk; simpa using hg
 have hcl : cur.toList.length = cap * 18 := by rw [Array.length_toList, hs]; rfl
 have HX := jh (ja hxl (ja ht (ja hflat hB)))
 have hc63 : cap ≤ 9223372036854775807 := by unfold maxLen at hc; omega
 generalize cur.toList = cl at *
 clear hg hs ht hxl hflat hB hc
 have hne : ((i : Int) == (i : Int) + 1) = false := by rw [beq_eq_false_iff_ne]; omega
 have hi1 : (i : Int) + 1 ≤ l.length := by omega
 have hi0 : 0 ≤ (i : Int) := Int.natCast_nonneg _
 have hn' : (l.length : Int) ≤ cap := by omega
 have hcap' : (cap : Int) ≤ 9223372036854775807 := by omega
 go_enter Tryz.func196, Tryz.ntmps196
 go_upto_region 5 with fail
 haveI : Nonempty (Wd (fun _ : World => True)) := ⟨⟨w, trivial⟩⟩
 have hib : i + 1 ≤ l.length := by omega
 have HCUT := jh (show ∀ n, i + 1 + n = l.length → ∀ u ∈ (cl.drop ((i + 1) * 18)).take (n * 18), u.oneCell' = true from fun n hn1 u hu => by
  refine HX.out.2.2.1.ones u ?_
  rw [← HX.out.2.1]
  rw [List.take_drop] at hu
  have e : (i + 1) * 18 + n * 18 = l.length * RecR.size := by rw [← Nat.add_mul, hn1]; rfl
  rw [e] at hu
  exact List.mem_of_mem_drop hu)
 have HC := jh (show ∀ n, i + 1 + n = l.length → ∀ z : List Value, z.length = 18 → _ from fun n hn1 z hz => del_cells (cl := cl) (cap := cap) (i := i) (n := n) (z := z) hcl (by omega) hz)
 have HE := jh (flat_erase HX.out.2.2.1 hi)
 by_cases hck : cap = i + 1
 case pos =>
  subst hck
  refine wp_region_mix (.seg [0, 1, 2, 3, 4, 5] 6 (.leaf [7])) (fun w' => ∃ d : Wd (fun _ : World => True), w' = d.w) (by kernel_rfl) (by kernel_rfl) (fun _ _ d _ _ h => by cases d <;> exact h) (ClsW.mk (D := fun _ => True) trivial) ?_
  unfold wpMix; simp only [pick, j1, j2, j3, j4]
  (repeat (show wpQuiet _ _ _ _ (_ :: _) _; go_big_quiet_step (fail))); refine qn ?_
  obtain ⟨i0, e1, e2, e3, e4⟩ := info_parts rec_info
  refine wpList_cut_append rfl (.tmp 22) (.tmp 25) _ rfl 46 i0 Tryz.underlying22 e1 hBk.drew i 0 _ (i + 1) _ rfl _ rfl (fun hp => by first | omega | rw [e3]) (by omega) (by rw [e3]; omega) (by rw [e3]; omega) (by rw [e3]; exact HCUT.out 0 (by omega)) ?_
  intro w2 hB2 hO2
  rw [e3] at hB2
  have hO2 : Only (fun q => q = g) w w2 := (jo (jb _ w).drew).tr hO2
  go_simp
  dsimp only [wpList, SegQ]
  refine ⟨fun w' => ∃ d : Wd (fun _ : World => True), w' = d.w, ClsW.mk (D := fun _ => True) trivial, fun _ h => h, ?_⟩
  unfold wpMix; simp only [pick, j1, j2, j3, j4]
  (repeat (show wpQuiet _ _ _ _ (_ :: _) _; go_big_quiet_step (fail))); refine qn ?_
  have hlast : i + 0 + 1 = l.length := by omega
  have HL := jh (ja hB2 hO2)
  clear e1 e2 e3 e4
  obtain ⟨hC1, hC2, hC3⟩ := HC.out 0 (by omega) (List.replicate 18 (.int .i64 0)) rfl
  obtain ⟨w3, zs, hcr, hz, hB3, hO3⟩ := run_clear_tail (P := Tryz.prog) 22 0 46 _ Tryz.underlying22 zero_rec (by decide) hB2 (i * 18) (l.length - i) (l.length - i) (by omega) (by have h1 := hC1; unfold delC at h1; rw [h1]; show _ + _ * 18 ≤ _; omega)
  have HZ := jh (ja hz (ja hB3 hO3))
  clear hz hB3 hO3 hC1 hC2 hC3 hB2 hO2
  go_wp2_with fail
  go_ret
  obtain ⟨hz, hB3, hO3⟩ := HZ.out
  have hO3 := HL.out.2.tr hO3
  have e1 : l.length - i = 1 := by omega
  rw [e1] at hz hB3
  have hz18 : zs.length = 18 := hz
  obtain ⟨q1, q2, q3⟩ := HC.out 0 (by omega) zs hz18
  have hll : (l.eraseIdx i).length = i + 0 := by rw [List.length_eraseIdx, if_pos hi]; omega
  have hxs : cl.take ((i + 1 + 0) * 18) = xs := by rw [← HX.out.2.1, show i + 1 + 0 = l.length from by omega]; rfl
  rw [hxs] at q3
  have hB3' : Blk w3 g 46 ((delC cl i 0).take ((i + 0) * 18) ++ zs ++ (delC cl i 0).drop ((i + 0) * 18 + 18)) := hB3
  have O := own_of_blk (R := RecR) (base := B) (S := S) (cap := i + 1) (l := l.eraseIdx i) hB3' q2 (by rw [hll]; omega) (by omega) HX.out.2.2.2 (xs := xs.take (i * 18) ++ xs.drop ((i + 1) * 18)) (by rw [hll]; exact q3)
   ((HE.out.same (Same.of_only hO3 fun k hk e => hk.2 (by rw [e]; rfl))).mono fun k hk _ => ⟨hk.1, fun e => hk.2 (by rw [e]; rfl)⟩)
  rw [hll] at O
  exact ⟨_, rfl, O, hO3.mono fun k e => by rw [e]; rfl⟩
 case neg =>
  skip
  refine wp_region_mix (.seg [0, 1, 2, 3, 4, 5] 6 (.leaf [7])) (fun w' => ∃ d : Wd (fun _ : World => True), w' = d.w) (by kernel_rfl) (by kernel_rfl) (fun _ _ d _ _ h => by cases d <;> exact h) (ClsW.mk (D := fun _ => True) trivial) ?_
  unfold wpMix; simp only [pick, j1, j2, j3, j4]
  (repeat (show wpQuiet _ _ _ _ (_ :: _) _; go_big_quiet_step (fail))); refine qn ?_
  obtain ⟨i0, e1, e2, e3, e4⟩ := info_parts rec_info
  refine wpList_cut_append rfl (.tmp 22) (.tmp 25) _ rfl 46 i0 Tryz.underlying22 e1 hBk.drew i (l.length - (i + 1)) _ (i + 1) _ rfl _ rfl (fun hp => by first | omega | rw [e3]) (by omega) (by rw [e3]; omega) (by rw [e3]; omega) (by rw [e3]; exact HCUT.out (l.length - (i + 1)) (by omega)) ?_
  intro w2 hB2 hO2
  rw [e3] at hB2
  have hO2 : Only (fun q => q = g) w w2 := (jo (jb _ w).drew).tr hO2
  go_simp
  dsimp only [wpList, SegQ]
  refine ⟨fun w' => ∃ d : Wd (fun _ : World => True), w' = d.w, ClsW.mk (D := fun _ => True) trivial, fun _ h => h, ?_⟩
  unfold wpMix; simp only [pick, j1, j2, j3, j4]
  (repeat (show wpQuiet _ _ _ _ (_ :: _) _; go_big_quiet_step (fail))); refine qn ?_
  have hlast : i + (l.length - (i + 1)) + 1 = l.length := by omega
  have HL := jh (ja hB2 hO2)
  clear e1 e2 e3 e4
  obtain ⟨hC1, hC2, hC3⟩ := HC.out (l.length - (i + 1)) (by omega) (List.replicate 18 (.int .i64 0)) rfl
  obtain ⟨w3, zs, hcr, hz, hB3, hO3⟩ := run_clear_tail (P := Tryz.prog) 22 0 46 _ Tryz.underlying22 zero_rec (by decide) hB2 ((i + (l.length - (i + 1))) * 18) (l.length - (i + (l.length - (i + 1)))) (cap - (i + (l.length - (i + 1)))) (by omega) (by have h1 := hC1; unfold delC at h1; rw [h1]; show _ + _ * 18 ≤ _; omega)
  have HZ := jh (ja hz (ja hB3 hO3))
  clear hz hB3 hO3 hC1 hC2 hC3 hB2 hO2
  go_wp2_with fail
  go_ret
  obtain ⟨hz, hB3, hO3⟩ := HZ.out
  have hO3 := HL.out.2.tr hO3
  have e1 : l.length - (i + (l.length - (i + 1))) = 1 := by omega
  rw [e1] at hz hB3
  have hz18 : zs.length = 18 := hz
  obtain ⟨q1, q2, q3⟩ := HC.out (l.length - (i + 1)) (by omega) zs hz18
  have hll : (l.eraseIdx i).length = i + (l.length - (i + 1)) := by rw [List.length_eraseIdx, if_pos hi]; omega
  have hxs : cl.take ((i + 1 + (l.length - (i + 1))) * 18) = xs := by rw [← HX.out.2.1, show i + 1 + (l.length - (i + 1)) = l.length from by omega]; rfl
  rw [hxs] at q3
  have hB3' : Blk w3 g 46 ((delC cl i (l.length - (i + 1))).take ((i + (l.length - (i + 1))) * 18) ++ zs ++ (delC cl i (l.length - (i + 1))).drop ((i + (l.length - (i + 1))) * 18 + 18)) := hB3
  have O := own_of_blk (R := RecR) (base := B) (S := S) (cap := cap) (l := l.eraseIdx i) hB3' q2 (by rw [hll]; omega) (by omega) HX.out.2.2.2 (xs := xs.take (i * 18) ++ xs.drop ((i + 1) * 18)) (by rw [hll]; exact q3)
   ((HE.out.same (Same.of_only hO3 fun k hk e => hk.2 (by rw [e]; rfl))).mono fun k hk _ => ⟨hk.1, fun e => hk.2 (by rw [e]; rfl)⟩)
  rw [hll] at O
  exact ⟨_, rfl, O, hO3.mono fun k e => by rw [e]; rfl⟩
end Go.Proofs.YtcmjgghkmdbphaaGreatDoor
namespace Go.Proofs.YtcmjgghkmdbphaaGreatDoor
open Go.RowKit
def relB (r f : Rec) : Bool := decide (f.range.first = r.range.first) && decide (f.range.last = r.range.last)
theorem relHas_any (b : Nat) (r : Rec) (nA pA sA : Option Addr) (nc pc sc : Nat) (f : Rec) (nA' pA' sA' : Option Addr) (nc' pc' sc' : Nat) (w : World) (hb : Blk w b 46 (r.cells nA nc pA pc sA sc)) :
 Calls Tryz.prog 194 #[.agg (f.cells nA' nc' pA' pc' sA' sc').toArray, .pointer (some ⟨b, 0, none⟩)] w fun e w' => e = .returned (.bool (relB r f)) ∧ Below w.heap.size w w' := by
 have hb1 := (jb w.heap.size w).al (.cells (f.cells nA' nc' pA' pc' sA' sc').toArray 46)
 have B0 := Blk.new w 46 (f.cells nA' nc' pA' pc' sA' sc')
 have BR := hb.ext hb1
 clear hb
 go_enter Tryz.func194, Tryz.ntmps194
 go_upto_region 1 with fail
 refine forget (M := fun W => Code.wp _ _ _ _ W) (fun W => Below w.heap.size w W ∧ Blk W w.heap.size 46 (f.cells nA' nc' pA' pc' sA' sc') ∧ Blk W b 46 (r.cells nA nc pA pc sA sc)) ⟨hb1, B0, BR⟩ ?_
 clear B0 hb1 BR
 rintro w1 ⟨hb1, B0, BR⟩
 have x13 : w1.cell? ⟨w.heap.size, 13, none⟩ = some (.int .i64 f.range.first) := B0.cell 13
 have x14 : w1.cell? ⟨w.heap.size, 14, none⟩ = some (.int .i64 f.range.last) := B0.cell 14
 have y13 : w1.cell? ⟨b, 13, none⟩ = some (.int .i64 r.range.first) := BR.cell 13
 have y14 : w1.cell? ⟨b, 14, none⟩ = some (.int .i64 r.range.last) := BR.cell 14
 have HB := jh hb1
 clear B0 hb1 BR
 have hcase : f.range.first ≠ r.range.first ∨ (f.range.first = r.range.first ∧ f.range.last ≠ r.range.last) ∨ (f.range.first = r.range.first ∧ f.range.last = r.range.last) := by omega
 rcases hcase with h1 | ⟨h1, h2⟩ | ⟨h1, h2⟩
 ·have HE := jh (show relB r f = false from by simp [relB, h1])
  have g1 : (f.range.first == r.range.first) = false := jn h1
  clear h1
  go_wp2_with fail
  go_ret
  exact ⟨ret_bool HE.out.symm, HB.out⟩
 ·have HE := jh (show relB r f = false from by simp [relB, h2])
  have g1 : (f.range.first == r.range.first) = true := beq_iff_eq.2 h1
  have g2 : (f.range.last == r.range.last) = false := jn h2
  clear h1 h2
  go_wp2_with fail
  go_ret
  exact ⟨ret_bool HE.out.symm, HB.out⟩
 ·have HE := jh (show relB r f = true from by simp [relB, h1, h2])
  have g1 : (f.range.first == r.range.first) = true := beq_iff_eq.2 h1
  have g2 : (f.range.last == r.range.last) = true := beq_iff_eq.2 h2
  clear h1 h2
  go_wp2_with fail
  go_ret
  exact ⟨ret_bool HE.out.symm, HB.out⟩
theorem enters_release : ∀ args w, (callFunc 194 args).run Tryz.prog w = .ok (.enter 194 args) w := enters_of Tryz.func194 (by kernel_rfl) rfl
theorem release_any (g : Nat) (s : St) (r : Rec) (nA pA sA : Option Addr) (nc pc sc : Nat) (P Q : Nat → Prop) (w : World) (h : StAt w P g s) (hg : ¬ P g) (hS : Fit s)
 (hr : RecAt w Q r nA nc pA pc sA sc) (hrl : s.ring.length ≤ 300) (hfl : (freshT s.table).length ≤ 40000) (hT : Tabs w) (h2 : 2 ≤ g) :
 Calls Tryz.prog 97 #[ptrV g, .agg (r.cells nA nc pA pc sA sc).toArray] w (StOut w P g (releaseS s r)) := by
 have hgl := h.lt
 have HH := jh (ja h (ja hg (ja hS (ja hr hT))))
 clear h hg hS hr hT
 have hb1 := (jb w.heap.size w).al (.cells (r.cells nA nc pA pc sA sc).toArray 46)
 have B0 := Blk.new w 46 (r.cells nA nc pA pc sA sc)
 have hs1 : (w.alloc (.cells (r.cells nA nc pA pc sA sc).toArray 46)).heap.size = w.heap.size + 1 := by simp
 unfold ptrV
 go_enter Tryz.func97, Tryz.ntmps97
 go_upto_region 1 with fail
 refine forget (M := fun W => Code.wp _ _ _ _ W) (fun W => Below w.heap.size w W ∧ Blk W w.heap.size 46 (r.cells nA nc pA pc sA sc) ∧ W.heap.size = w.heap.size + 1) ⟨hb1, B0, hs1⟩ ?_
 clear B0 hb1 hs1
 rintro w1 ⟨hb1, B0, hs1⟩
 obtain ⟨v, hB, hI⟩ := HH.out.1
 obtain ⟨Af, cf, hvf, hcf1, hcf2, hrowf⟩ := hI.frozen
 have hvl : v.frozen = .slice Af s.frozen.length cf := by injection hvf
 have y9 : w1.cell? ⟨g, 9, none⟩ = some v.frozen := (hB.ext hb1).cell 9
 rw [hvl] at y9
 have HSP := jh (show releaseS s r = (if idxI (relB r) s.frozen < 0 then (s, 4) else if r.range.owner = s.self ∨ r.range.owner < 1 ∨ s.nodes < r.range.owner ∨ r.range.epoch ≤ ((s.frozen.map Rec.range).getD (idxI (relB r) s.frozen).toNat zeroRange).epoch then (s, 1) else if (setR s.ring r.range).2 ≠ 0 then (s, (setR s.ring r.range).2) else ({ s with ring := (setR s.ring r.range).1, frozen := s.frozen.eraseIdx (idxI (relB r) s.frozen).toNat, table := dropT (freshT s.table) r.range }, 0)) from rfl)
 have C1 := idxF_Rec 194 [.pointer (some ⟨w.heap.size, 0, none⟩)] (relB r) enters_release Af cf s.frozen P w1 (hrowf.ext hb1) (by have := HH.out.2.2.1.frozen; omega) (fun a cs W' _ ha hb' => by
  obtain ⟨nA', nc', pA', pc', sA', sc', rfl, _⟩ := rec_rep.1 ha
  exact relHas_any w.heap.size r nA pA sA nc pc sc a nA' pA' sA' nc' pc' sc' W' (B0.ext hb'))
 have hbd := idxI_bd (relB r) s.frozen
 generalize idxI (relB r) s.frozen = i at *
 have HV := jh (ja hB (ja hI (ja hvl (ja hrowf hcf2))))
 have H1 := jh (ja hb1 (ja B0 hs1))
 clear hB hI hvf hcf1 hcf2 hrowf hvl hb1 B0 hs1
 go_wp2_with fail
 refine C1.mono ?_
 clear C1 y9
 rintro e w2 ⟨rfl, hb2⟩
 have HB2 := jh (ja (H1.out.1.tr hb2) (H1.out.2.1.ext hb2))
 clear hb2
 by_cases hi : i < 0
 ·have HE := jh (HSP.out.trans (if_pos hi))
  go_wp2_with fail
  go_ret
  unfold StOut
  rw [HE.out]
  obtain ⟨v', a1, a2⟩ := HH.out.1
  exact ⟨rfl, ⟨v', a1.ext HB2.out.1, (a2.same (js HB2.out.1)).mono fun k hk => .inl hk⟩, jo HB2.out.1⟩
 have HE := jh (HSP.out.trans (if_neg hi))
 obtain ⟨k, rfl⟩ : ∃ k : Nat, i = k := ⟨i.toNat, by omega⟩
 have hkl : k < s.frozen.length := by omega
 have hlk := jg hkl
 obtain ⟨bb, o, mA, mc, qA, qc, tA, tc, hAf, hbw, hrec, hcs⟩ := recs_at (HV.out.2.2.2.1.ext HB2.out.1) hlk
 have hgd : (s.frozen.map Rec.range).getD ((k : Int)).toNat zeroRange = s.frozen[k].range := by simp [hkl]
 rw [hgd, Int.toNat_natCast] at HE
 generalize s.frozen[k] = f at *
 have hi' : decide ((k : Int) < 0) = false := jd hi
 have hkl' : (k : Int) < s.frozen.length := by omega
 have hk0 : 0 ≤ ((k : Nat) : Int) := Int.natCast_nonneg _
 have x16 : w2.cell? ⟨bb, o + k * 18 + 16, none⟩ = some (.int .i64 f.range.epoch) := hcs 16 _ rfl
 have z15 : w2.cell? ⟨w.heap.size, 15, none⟩ = some (.int .i64 r.range.owner) := HB2.out.2.cell 15
 have z16 : w2.cell? ⟨w.heap.size, 16, none⟩ = some (.int .i64 r.range.epoch) := HB2.out.2.cell 16
 have y0 : w2.cell? ⟨g, 0, none⟩ = some (.int .i64 s.self) := (HV.out.1.ext HB2.out.1).cell 0
 have y1 : w2.cell? ⟨g, 1, none⟩ = some (.int .i64 s.nodes) := (HV.out.1.ext HB2.out.1).cell 1
 have y9 : w2.cell? ⟨g, 9, none⟩ = some v.frozen := (HV.out.1.ext HB2.out.1).cell 9
 rw [HV.out.2.2.1, hAf] at y9
 have HAF := jh hAf
 clear hgd hlk hrec hcs hi hAf hbd
 go_upto_region 4 with fail
 have hcase : r.range.owner = s.self ∨ (r.range.owner ≠ s.self ∧ r.range.owner < 1) ∨ (r.range.owner ≠ s.self ∧ ¬ r.range.owner < 1 ∧ s.nodes < r.range.owner) ∨ (r.range.owner ≠ s.self ∧ ¬ r.range.owner < 1 ∧ ¬ s.nodes < r.range.owner ∧ r.range.epoch ≤ f.range.epoch) ∨ (r.range.owner ≠ s.self ∧ ¬ r.range.owner < 1 ∧ ¬ s.nodes < r.range.owner ∧ ¬ r.range.epoch ≤ f.range.epoch) := by omega
 rcases hcase with h1 | ⟨h1, h3⟩ | ⟨h1, h3, h4⟩ | ⟨h1, h3, h4, h5⟩ | ⟨h1, h3, h4, h5⟩
 ·have HE2 := jh (HE.out.trans (if_pos (.inl h1)))
  have g1 : (r.range.owner == s.self) = true := beq_iff_eq.2 h1
  go_quiet (fail)
  go_wp2_with fail
  go_ret
  unfold StOut
  rw [HE2.out]
  obtain ⟨v', a1, a2⟩ := HH.out.1
  exact ⟨rfl, ⟨v', a1.ext (HB2.out.1.drewN _), (a2.same (js (HB2.out.1.drewN _))).mono fun k hk => .inl hk⟩, jo (HB2.out.1.drewN _)⟩
 ·have HE2 := jh (HE.out.trans (if_pos (.inr (.inl h3))))
  have g1 : (r.range.owner == s.self) = false := jn h1
  go_quiet (fail)
  go_wp2_with fail
  go_ret
  unfold StOut
  rw [HE2.out]
  obtain ⟨v', a1, a2⟩ := HH.out.1
  exact ⟨rfl, ⟨v', a1.ext (HB2.out.1.drewN _), (a2.same (js (HB2.out.1.drewN _))).mono fun k hk => .inl hk⟩, jo (HB2.out.1.drewN _)⟩
 ·have HE2 := jh (HE.out.trans (if_pos (.inr (.inr (.inl h4)))))
  have g1 : (r.range.owner == s.self) = false := jn h1
  have g3 := jd h3
  go_quiet (fail)
  go_wp2_with fail
  go_ret
  unfold StOut
  rw [HE2.out]
  obtain ⟨v', a1, a2⟩ := HH.out.1
  exact ⟨rfl, ⟨v', a1.ext (HB2.out.1.drewN _), (a2.same (js (HB2.out.1.drewN _))).mono fun k hk => .inl hk⟩, jo (HB2.out.1.drewN _)⟩
 ·have HE2 := jh (HE.out.trans (if_pos (.inr (.inr (.inr h5)))))
  have g1 : (r.range.owner == s.self) = false := jn h1
  have g3 := jd h3
  have g4 : decide (s.nodes < r.range.owner) = false := jd h4
  go_quiet (fail)
  go_wp2_with fail
  go_ret
  unfold StOut
  rw [HE2.out]
  obtain ⟨v', a1, a2⟩ := HH.out.1
  exact ⟨rfl, ⟨v', a1.ext (HB2.out.1.drewN _), (a2.same (js (HB2.out.1.drewN _))).mono fun k hk => .inl hk⟩, jo (HB2.out.1.drewN _)⟩
 have HE2 := jh (HE.out.trans (if_neg (by omega)))
 have g1 : (r.range.owner == s.self) = false := jn h1
 have g3 := jd h3
 have g4 : decide (s.nodes < r.range.owner) = false := jd h4
 have g5 := jd h5
 clear h1 h3 h4 h5
 go_quiet (fail)
 clear x16 z15 z16 y0 y1 y9 g1 g3 g4 g5
 have hb3 : Below w2.heap.size w2 (w2.drewN nq) := (jb _ _).drewN _
 generalize hw3 : w2.drewN nq = w3 at *
 have HB3 := jh (ja (HB2.out.1.tr hb3) (HB2.out.2.ext hb3))
 clear hw3 hb3
 obtain ⟨Ar, cr, hvr, hc1, hc2, hrow⟩ := HV.out.2.1.ring
 have hvrl : v.ring = .slice Ar s.ring.length cr := by injection hvr
 go_upto_region 6 with fail
 have y4 : w3.cell? ⟨g, 4, none⟩ = some v.ring := (HV.out.1.ext HB3.out.1).cell 4
 rw [hvrl] at y4
 have y4 := On.cell y4
 have z13 := On.cell (HB3.out.2.cell 13 : w3.cell? ⟨w.heap.size, 13, none⟩ = some (.int .i64 r.range.first))
 have z14 := On.cell (HB3.out.2.cell 14 : w3.cell? ⟨w.heap.size, 14, none⟩ = some (.int .i64 r.range.last))
 have z15 := On.cell (HB3.out.2.cell 15 : w3.cell? ⟨w.heap.size, 15, none⟩ = some (.int .i64 r.range.owner))
 have z16 := On.cell (HB3.out.2.cell 16 : w3.cell? ⟨w.heap.size, 16, none⟩ = some (.int .i64 r.range.epoch))
 have hlo := jb w3.heap.size w3
 have CS := setRing_any Ar cr s.ring r.range P w3.drew (hrow.ext HB3.out.1.drew) (by omega) HH.out.2.2.2.1.range
 unfold GotSplit at CS
 generalize setR s.ring r.range = sp at CS HE2
 obtain ⟨ring', code⟩ := sp
 dsimp only at CS HE2
 have HE2 := jh HE2.out
 clear hvr hvrl hc1 hc2 hrow
 refine wp_region_mix (.seg [0, 1, 2, 3, 4, 5] 6 (.leaf [7, 8, 9, 10, 11])) (fun w' => ∃ d : Wd (On w3), w' = d.w) (by kernel_rfl) (by kernel_rfl) (fun _ _ d _ _ h => by cases d <;> exact h) (ClsW.mk hlo.drew) ?_
 unfold wpMix; simp only [pick, j1, j2, j3, j4]
 (repeat (show wpQuiet _ _ _ _ (_ :: _) _; go_big_quiet_step (fail))); refine qn ?_
 go_wp2_with fail
 refine CS.mono ?_
 clear CS
 rintro e w4 ⟨⟨v4, rfl, ho4⟩, hb4'⟩
 have hb4 : Below w3.heap.size w3 w4 := hlo.drew.tr hb4'
 obtain ⟨A4, c4, hv4, hc41, hc42⟩ := ho4.form
 subst hv4
 have HO4 := jh (ja ho4 (ja hc41 hc42))
 have HB4 := jh (ja (HB3.out.1.tr hb4) (HB3.out.2.ext hb4))
 clear ho4 hb4' hc41 hc42
 go_wp2_with fail
 (refine segw (D := On w3) (hb4) ?_; unfold wpMix; simp only [pick, j1, j2, j3, j4]; (repeat (show wpQuiet _ _ _ _ (_ :: _) _; go_big_quiet_step (fail))); refine qn ?_)
 clear y4 z13 z14 z15 z16 hlo hb4
 by_cases hcode : code = 0
 rotate_left
 ·have HE3 := jh (HE2.out.trans (if_pos hcode))
  have hc1 : (code != 0) = true := bne_iff_ne.2 hcode
  clear hcode
  go_wp2_with fail
  go_ret
  unfold StOut
  rw [HE3.out]
  obtain ⟨v', a1, a2⟩ := HH.out.1
  exact ⟨rfl, ⟨v', a1.ext HB4.out.1, (a2.same (js HB4.out.1)).mono fun k hk => .inl hk⟩, jo HB4.out.1⟩
 have HE3 := jh (HE2.out.trans (if_neg (by simp [hcode])))
 subst hcode
 have y9 : w4.cell? ⟨g, 9, none⟩ = some v.frozen := (HV.out.1.ext HB4.out.1).cell 9
 rw [HV.out.2.2.1] at y9
 have CC := clone_Rec Af cf s.frozen P w4 (HV.out.2.2.2.1.ext HB4.out.1) (by have := HH.out.2.2.1.frozen; omega)
 unfold GotOwn at CC
 go_wp2_with fail
 refine CC.mono ?_
 clear CC y9
 rintro e w5 ⟨⟨v5, rfl, ho5⟩, hb5⟩
 have CD := delete_any v5 s.frozen k w4.heap.size _ w5 ho5 hkl HH.out.2.2.1.frozen
 have hz4 := HB4.out.1.size
 have HB5 := jh hb5
 have HO5 := jh (ja ho5 (ja (HB4.out.1.tr hb5) (HB4.out.2.ext hb5)))
 clear ho5 hb5
 go_wp2_with fail
 have hwr : wrap64 ((k : Int) + 1) = (k : Int) + 1 := wrap_in _ (by have := HH.out.2.2.1.frozen; omega)
 rw [hwr]
 refine CD.mono ?_
 clear CD hwr
 rintro e w6 ⟨v6, rfl, ho6, hO6⟩
 have hOn : ∀ q, v5.ownBlock = some q → w4.heap.size ≤ q := fun q hq => (HO5.out.1.lt q hq).1
 have hg6 : ¬ v5.ownBlock = some g := fun e => by have := hOn g e; omega
 have hBg6 := (HV.out.1.ext HO5.out.2.1).only hO6 hg6
 have hBx6 := HO5.out.2.2.only hO6 (fun e => by have := hOn _ e; have := HB4.out.2.lt; omega)
 have h46 : Below w.heap.size w w6 := HO5.out.2.1.trans (hO6.low (fun q e => by have := hOn q e; omega) HO5.out.2.1.size)
 have y4 : w6.cell? ⟨g, 4, none⟩ = some v.ring := hBg6.cell 4
 have f4 := hBg6.frozen 4
 have y9 : w6.cell? ⟨g, 9, none⟩ = some v.frozen := hBg6.cell 9
 have f9 := hBg6.frozen 9
 obtain ⟨A6, c6, hv6, hc61, hc62⟩ := ho6.form
 subst hv6
 have hrow4 := (((HO4.out.1.row' range_plain (P := fun k => w.heap.size ≤ k ∧ k < w4.heap.size) fun q hq => by
  have h1 := HO4.out.1.lt q hq
  have h2 := HB3.out.1.size
  have h3 : w3.drew.heap.size = w3.heap.size := rfl
  omega).same (js HB5.out) HB5.out.size).same (w' := w6) (Same.of_only hO6 fun k hk e => by have := hOn k e; have := hk.2; omega) hO6.size)
 have hrow6 := ho6.row (fun q hq => .inl hq)
 have H6 := jh (ja hBg6 (ja hBx6 (ja h46 (ja hc61 (ja hc62 (ja hrow4 hrow6))))))
 have hz6 := h46.size
 have hlf : ((s.frozen.eraseIdx k).length : Nat) = (s.frozen.eraseIdx k).length := rfl
 generalize hfz : s.frozen.eraseIdx k = frozen' at *
 clear hlf ho6 hBg6 hBx6 h46 hc61 hc62 hO6 hrow4 hrow6 hOn hg6
 go_upto_region 10 with fail
 have hI6 := HV.out.2.1.same (js H6.out.2.2.1)
 have hO7 : Only (· = g) w6 (w6.setCell ⟨g, 4, none⟩ (.slice A4 ring'.length c4)) := Only.set_ (F := (· = g)) rfl _
 have hO8 : Only (· = g) w6 ((w6.setCell ⟨g, 4, none⟩ (.slice A4 ring'.length c4)).setCell ⟨g, 9, none⟩ (.slice A6 frozen'.length c6)) := hO7.tr (Only.set_ (F := (· = g)) rfl _)
 have hI8 := (hI6.same (Same.of_only hO8 fun k hk e => HH.out.2.1 (e ▸ hk))).mono (Q := fun k => P k ∨ w.heap.size ≤ k) fun k hk => .inl hk
 have hst8 : StAt ((w6.setCell ⟨g, 4, none⟩ (.slice A4 ring'.length c4)).setCell ⟨g, 9, none⟩ (.slice A6 frozen'.length c6)) (fun k => P k ∨ w.heap.size ≤ k) g { s with ring := ring', frozen := frozen' } := by
  refine ⟨{ v with ring := .slice A4 ring'.length c4, frozen := .slice A6 frozen'.length c6 }, (H6.out.1.set_ 4 _).set_ 9 _, { hI8 with ring := ⟨A4, c4, rfl, HO4.out.2.1, HO4.out.2.2, ?_⟩, frozen := ⟨A6, c6, rfl, H6.out.2.2.2.1, H6.out.2.2.2.2.1, ?_⟩ }⟩
  ·exact (H6.out.2.2.2.2.2.1.same (Same.of_only hO8 fun k hk e => by have e' : k = g := e; have := hk.1; omega) hO8.size).mono fun k hk _ => .inr hk.1
  ·refine (H6.out.2.2.2.2.2.2.same (Same.of_only hO8 fun k hk e => ?_) hO8.size).mono fun k hk _ => ?_
   ·have e' : k = g := e
    rcases hk with h | h
    ·omega
    ·exact HH.out.2.1 (e' ▸ h)
   ·rcases hk with h | h
    ·exact .inr (by omega)
    ·exact .inl h
 have hBx8 := H6.out.2.1.only hO8 (fun e => by have e' : w.heap.size = g := e; omega)
 have hT8 := (HH.out.2.2.2.2.below H6.out.2.2.1).only hO8 (by intro e; have e' : 0 = g := e; omega) (by intro e; have e' : 1 = g := e; omega)
 have hz8 := hO8.size
 have hOw8 : Only (· = g) w _ := (jo H6.out.2.2.1).tr hO8
 generalize hw8 : ((w6.setCell ⟨g, 4, none⟩ (.slice A4 ring'.length c4)).setCell ⟨g, 9, none⟩ (.slice A6 frozen'.length c6)) = w8 at *
 have hst8 : StAt w8 (fun k => (P k ∨ w.heap.size ≤ k) ∧ k < w8.heap.size) g { s with ring := ring', frozen := frozen' } := by obtain ⟨v', a1, a2⟩ := hst8; exact ⟨v', a1, a2.low⟩
 have CF := fresh_any g { s with ring := ring', frozen := frozen' } (fun k => (P k ∨ w.heap.size ≤ k) ∧ k < w8.heap.size) w8 hst8 (fun h => by rcases h.1 with h | h; exact HH.out.2.1 h; omega) HH.out.2.2.1.fair.len HH.out.2.2.1.fair.each HH.out.2.2.1.fair.put hT8 (by omega)
 unfold FreshOut ptrV at CF
 have H8 := jh (ja hst8 (ja hBx8 (ja hT8 hOw8)))
 have hzz : w.heap.size < w8.heap.size := hBx8.lt
 clear hw8 hI6 hI8 hO7 hO8 hst8 hBx8 hT8 hOw8 y4 f4 y9 f9
 go_wp2_with fail
 refine CF.mono ?_
 clear CF
 rintro e w9 ⟨rfl, ⟨v9, hB9, hT9, hR9⟩, hO9, _⟩
 have hz9 := hO9.size
 have hBx9 := H8.out.2.1.only hO9 (fun e => by have e' : w.heap.size = g := e; omega)
 have H9 := jh (ja hT9 (ja hR9 (H8.out.2.2.2.tr hO9)))
 have hD : InD g w.heap.size { s with ring := ring', frozen := frozen', table := freshT s.table } v9 r nA nc pA pc sA sc w9 := ⟨hB9, hBx9⟩
 clear hB9 hT9 hR9 hO9 hBx9
 haveI : Nonempty (Wd (InD g w.heap.size { s with ring := ring', frozen := frozen', table := freshT s.table } v9 r nA nc pA pc sA sc)) := ⟨⟨_, hD⟩⟩
 have y5 := InD.c5 (g := g) (nb := w.heap.size) (s := { s with ring := ring', frozen := frozen', table := freshT s.table }) (v := v9) (r := r) (nA := nA) (nc := nc) (pA := pA) (pc := pc) (sA := sA) (sc := sc)
 have z13 := InD.r13 (g := g) (nb := w.heap.size) (s := { s with ring := ring', frozen := frozen', table := freshT s.table }) (v := v9) (r := r) (nA := nA) (nc := nc) (pA := pA) (pc := pc) (sA := sA) (sc := sc)
 have z14 := InD.r14 (g := g) (nb := w.heap.size) (s := { s with ring := ring', frozen := frozen', table := freshT s.table }) (v := v9) (r := r) (nA := nA) (nc := nc) (pA := pA) (pc := pc) (sA := sA) (sc := sc)
 have z15 := InD.r15 (g := g) (nb := w.heap.size) (s := { s with ring := ring', frozen := frozen', table := freshT s.table }) (v := v9) (r := r) (nA := nA) (nc := nc) (pA := pA) (pc := pc) (sA := sA) (sc := sc)
 have z16 := InD.r16 (g := g) (nb := w.heap.size) (s := { s with ring := ring', frozen := frozen', table := freshT s.table }) (v := v9) (r := r) (nA := nA) (nc := nc) (pA := pA) (pc := pc) (sA := sA) (sc := sc)
 go_upto_region 11 with fail
 refine wp_region_mix (.seg [0, 1, 2, 3, 4, 5] 6 (.leaf [])) (fun w' => ∃ d : Wd (InD g w.heap.size { s with ring := ring', frozen := frozen', table := freshT s.table } v9 r nA nc pA pc sA sc), w' = d.w) (by kernel_rfl) (by kernel_rfl) (fun _ _ d _ _ h => by cases d <;> exact h) (ClsW.mk (D := InD g w.heap.size { s with ring := ring', frozen := frozen', table := freshT s.table } v9 r nA nc pA pc sA sc) hD.drew) ?_
 unfold wpMix; simp only [pick, j1, j2, j3, j4]
 (repeat (show wpQuiet _ _ _ _ (_ :: _) _; go_big_quiet_step (fail))); refine qn ?_
 have CD := drop_any v9.tb (freshT s.table) r.range (fun k => w8.heap.size ≤ k ∧ k < w9.heap.size) w9.drew (H9.out.1.ext (jb _ _).drew) hfl
 unfold ptrV at CD
 go_wp2_with fail
 refine CD.mono ?_
 clear CD
 rintro e w10 ⟨⟨n10, rfl⟩, hT10, hO10⟩
 have hz10 := hO10.size
 have hzd : w9.drew.heap.size = w9.heap.size := rfl
 have hD10 := hD.drew.only hO10 (fun h => by have := h.1; omega) (fun h => by have := h.1; omega)
 have hO9d : Only (fun k => w8.heap.size ≤ k ∧ k < w9.heap.size) w9 w10 := (jo (jb _ w9).drew).trans hO10 fun q hq h => h.1
 have H10 := jh (ja hT10 (ja hO9d hD10.st))
 clear hT10 hO10 hO9d
 go_wp2_with fail
 dsimp only [wpList, SegQ]
 refine ⟨fun w' => ∃ d : Wd (InD g w.heap.size { s with ring := ring', frozen := frozen', table := freshT s.table } v9 r nA nc pA pc sA sc), w' = d.w, ClsW.mk (D := InD g w.heap.size { s with ring := ring', frozen := frozen', table := freshT s.table } v9 r nA nc pA pc sA sc) hD10, fun _ h => h, ?_⟩
 unfold wpMix; simp only [pick, j2]
 (repeat (show wpQuiet _ _ _ _ (_ :: _) _; go_big_quiet_step (fail))); refine qn ?_
 clear y5 z13 z14 z15 z16 hD hD10
 go_wp2_with fail
 go_ret
 unfold StOut
 rw [HE3.out]
 refine ⟨rfl, ⟨v9, H10.out.2.2, StRest.full (s := { s with ring := ring', frozen := frozen', table := dropT (freshT s.table) r.range }) ?_ (H10.out.1.mono fun k hk => ?_)⟩, ?_⟩
 ·have h1 := (H9.out.2.1.same (Same.of_only H10.out.2.1 fun k hk e => by have := e.1; have := hk.2; omega)).mono (Q := fun k => P k ∨ w.heap.size ≤ k) fun k hk _ => hk.1
  exact ⟨h1.fit, h1.ring, h1.held, h1.outcomes, h1.decided, h1.frozen, h1.log⟩
 ·exact .inr (by have := hk.1; omega)
 ·exact H9.out.2.2.trans H10.out.2.1 fun q hq h => by have := h.1; omega
end Go.Proofs.YtcmjgghkmdbphaaGreatDoor
namespace Go.Proofs.YtcmjgghkmdbphaaGreatDoor
open Go.RowKit
theorem sizeR_put {r : Rec} (h : sizeR r ≤ 20000) : PutFair r.streams := by
 obtain ⟨h1, h2, h2'⟩ := sizeB_sum r.batch
 have h3 := sizeSs_bd r.streams
 obtain ⟨h4, h5, h6⟩ := weights_bd r.streams
 have h7 : (0 : Int) ≤ (sumD r.batch.puts : Int) := Int.natCast_nonneg _
 unfold sizeR at h
 exact ⟨by omega, fun s hs => by have := h6 s hs; omega⟩
theorem applyAll_any (g : Nat) (s : St) (r : Rec) (nA pA sA : Option Addr) (nc pc sc : Nat) (P Q : Nat → Prop) (w : World) (h : StAt w P g s) (hg : ¬ P g) (hS : Fit s)
 (hr : RecAt w Q r nA nc pA pc sA sc) (hQ : ¬ Q g) (hF : r.Fair) (hT : Tabs w) (h2 : 2 ≤ g) (hP : PutFair r.streams) (hrl : s.ring.length ≤ 300) (hfl : (freshT s.table).length ≤ 40000) :
 Calls Tryz.prog 19 #[ptrV g, .agg (r.cells nA nc pA pc sA sc).toArray] w (StOut w P g (applyS s r)) := by
 by_cases h12 : r.kind = 1 ∨ r.kind = 2
 ·rcases h12 with k | k
  ·exact applyK_1 g s r nA pA sA nc pc sc P Q w h hg hS hr hQ hF hT h2 k
  ·exact applyK_2 g s r nA pA sA nc pc sc P Q w h hg hS hr hQ hF hT h2 k
 have hgl := h.lt
 have HH := jh (ja h (ja hg (ja hS (ja hr (ja hF hT)))))
 clear h hg hS hr hF hT
 have hb1 := (jb w.heap.size w).al (.cells (r.cells nA nc pA pc sA sc).toArray 46)
 have B0 := Blk.new w 46 (r.cells nA nc pA pc sA sc)
 have hs1 : (w.alloc (.cells (r.cells nA nc pA pc sA sc).toArray 46)).heap.size = w.heap.size + 1 := by simp
 unfold ptrV
 go_enter Tryz.func19, Tryz.ntmps19
 go_upto_region 1 with fail
 refine forget (M := fun W => Code.wp _ _ _ _ W) (fun W => Below w.heap.size w W ∧ Blk W w.heap.size 46 (r.cells nA nc pA pc sA sc) ∧ W.heap.size = w.heap.size + 1) ⟨hb1, B0, hs1⟩ ?_
 clear B0 hb1 hs1
 rintro w1 ⟨hb1, B0, hs1⟩
 obtain ⟨v, hB, hI⟩ := HH.out.1
 have C1 := gone_any g s.self w1 ((hB.ext hb1).cell 0) HH.out.2.2.1.self
 have C2 := recCheck_any r nA pA sA nc pc sc Q w1 (HH.out.2.2.2.1.ext (js hb1) hb1.size) HH.out.2.2.2.2.1 (HH.out.2.2.2.2.2.below hb1) (by omega)
 unfold ptrV at C1
 have H1 := jh (ja hb1 hs1)
 clear hB hI hb1
 go_wp2_with fail
 refine C1.mono ?_
 clear C1
 rintro e w' ⟨rfl, rfl⟩
 go_wp2_with (first
  | ((with_reducible refine wpList_load_blk rfl rfl ?_ B0 Tryz.underlying46 rfl (by kernel_rfl) ?_); · rfl)
  | fail)
 refine C2.mono ?_
 clear C2
 rintro e w2 ⟨rfl, hb2⟩
 have B2 := B0.ext hb2
 have hw2 := H1.out.1.tr hb2
 by_cases hc : checkR r = 0
 ·have hk := checkR_kind hc
  have HA := jh (show applyS s r = doS s r from by unfold applyS; rw [if_neg (by rw [hc]; simp)])
  have hst2 : StAt w2 P g s := by obtain ⟨v, hB, hI⟩ := HH.out.1; exact ⟨v, hB.ext hw2, hI.same (js hw2)⟩
  have hra := (HH.out.2.2.2.1.mono fun k h h' => (⟨h, h'⟩ : Q k ∧ k < w.heap.size)).ext (js hw2) hw2.size
  have hT2 := HH.out.2.2.2.2.2.below hw2
  have D3 := jh fun (h : r.kind = 3) => (show Calls Tryz.prog 89 #[ptrV g, .agg (r.cells nA nc pA pc sA sc).toArray] w2 (StOut w2 P g (applyS s r)) from by rw [HA.out, show doS s r = commitS s r from by unfold doS; rw [h]; rfl]; exact commit_out g s r nA pA sA nc pc sc P (fun k => Q k ∧ k < w.heap.size) w2 hst2 HH.out.2.1 HH.out.2.2.1 hra (fun h => hQ h.1) HH.out.2.2.2.2.1.puts HH.out.2.2.2.2.1.data hT2 h2)
  have D4 := jh fun (h : r.kind = 4) => (show Calls Tryz.prog 90 #[ptrV g, .agg (r.cells nA nc pA pc sA sc).toArray] w2 (StOut w2 P g (applyS s r)) from by rw [HA.out, show doS s r = prepareS s r from by unfold doS; rw [h]; rfl]; exact prepare_any g s r nA pA sA nc pc sc P (fun k => Q k ∧ k < w.heap.size) w2 hst2 HH.out.2.1 HH.out.2.2.1 hra (fun h => hQ h.1) HH.out.2.2.2.2.1.puts HH.out.2.2.2.2.1.data hT2 h2)
  have D5 := jh fun (h : r.kind = 5) => (show Calls Tryz.prog 91 #[ptrV g, .agg (r.cells nA nc pA pc sA sc).toArray] w2 (StOut w2 P g (applyS s r)) from by rw [HA.out, show doS s r = decideS s r from by unfold doS; rw [h]; rfl]; exact decide_out g s r nA pA sA nc pc sc P (fun k => Q k ∧ k < w.heap.size) w2 hst2 HH.out.2.1 HH.out.2.2.1 hra (fun h => hQ h.1) HH.out.2.2.2.2.1.puts HH.out.2.2.2.2.1.data hT2 h2)
  have D6 := jh fun (h : r.kind = 6) => (show Calls Tryz.prog 92 #[ptrV g, .agg (r.cells nA nc pA pc sA sc).toArray] w2 (StOut w2 P g (applyS s r)) from by rw [HA.out, show doS s r = outcomeS s r from by unfold doS; rw [h]; rfl]; exact outcome_out g s r nA pA sA nc pc sc P (fun k => Q k ∧ k < w.heap.size) w2 hst2 HH.out.2.1 HH.out.2.2.1 hra (fun h => hQ h.1) HH.out.2.2.2.2.1.nodes HH.out.2.2.2.2.1.data hT2 h2)
  have D7 := jh fun (h : r.kind = 7) => (show Calls Tryz.prog 93 #[ptrV g, .agg (r.cells nA nc pA pc sA sc).toArray] w2 (StOut w2 P g (applyS s r)) from by rw [HA.out, show doS s r = forgetS s r from by unfold doS; rw [h]; rfl]; exact forget_out g s r nA pA sA nc pc sc P (fun k => Q k ∧ k < w.heap.size) w2 hst2 HH.out.2.1 HH.out.2.2.1 hra (fun h => hQ h.1) HH.out.2.2.2.2.1.nodes HH.out.2.2.2.2.1.data hT2 h2)
  have D8 := jh fun (h : r.kind = 8) => (show Calls Tryz.prog 94 #[ptrV g, .agg (r.cells nA nc pA pc sA sc).toArray] w2 (StOut w2 P g (applyS s r)) from by rw [HA.out, show doS s r = splitS s r from by unfold doS; rw [h]; rfl]; exact ssplit_any g s r nA pA sA nc pc sc P (fun k => Q k ∧ k < w.heap.size) w2 hst2 HH.out.2.1 HH.out.2.2.1 hra)
  have D9 := jh fun (h : r.kind = 9) => (show Calls Tryz.prog 95 #[ptrV g, .agg (r.cells nA nc pA pc sA sc).toArray] w2 (StOut w2 P g (applyS s r)) from by rw [HA.out, show doS s r = freezeS s r from by unfold doS; rw [h]; rfl]; exact freeze_any g s r nA pA sA nc pc sc P (fun k => Q k ∧ k < w.heap.size) w2 hst2 HH.out.2.1 HH.out.2.2.1 hra (freeze_empty hc (.inl h)))
  have D10 := jh fun (h : r.kind = 10) => (show Calls Tryz.prog 96 #[ptrV g, .agg (r.cells nA nc pA pc sA sc).toArray] w2 (StOut w2 P g (applyS s r)) from by rw [HA.out, show doS s r = installS s r from by unfold doS; rw [h]; rfl]; exact install_any g s r nA pA sA nc pc sc P (fun k => Q k ∧ k < w.heap.size) w2 hst2 HH.out.2.1 HH.out.2.2.1 hra (fun h => hQ h.1) hP (checkR_span hc (.inr (.inl h))).1 hrl hfl hT2 h2)
  have D11 := jh fun (h : r.kind = 11) => (show Calls Tryz.prog 97 #[ptrV g, .agg (r.cells nA nc pA pc sA sc).toArray] w2 (StOut w2 P g (applyS s r)) from by rw [HA.out, show doS s r = releaseS s r from by unfold doS; rw [h]; rfl]; exact release_any g s r nA pA sA nc pc sc P (fun k => Q k ∧ k < w.heap.size) w2 hst2 HH.out.2.1 HH.out.2.2.1 hra hrl hfl hT2 h2)
  have hcase : r.kind = 3 ∨ r.kind = 4 ∨ r.kind = 5 ∨ r.kind = 6 ∨ r.kind = 7 ∨ r.kind = 8 ∨ r.kind = 9 ∨ r.kind = 10 ∨ r.kind = 11 := by omega
  rw [hc]
  have x0 : w2.cell? ⟨w.heap.size, 0, none⟩ = some (.int .i64 r.kind) := B2.cell 0
  have H2 := jh hw2
  clear hc hb2 hw2 B0 hst2 hra hT2 hk h12 HA
  generalize applyS s r = q at *
  rcases hcase with h8 | h8 | h8 | h8 | h8 | h8 | h8 | h8 | h8
  all_goals
   first
    | have C3 := D3.out h8
    | have C3 := D4.out h8
    | have C3 := D5.out h8
    | have C3 := D6.out h8
    | have C3 := D7.out h8
    | have C3 := D8.out h8
    | have C3 := D9.out h8
    | have C3 := D10.out h8
    | have C3 := D11.out h8
   rw [h8] at x0
   clear D3 D4 D5 D6 D7 D8 D9 D10 D11 h8
   unfold ptrV at C3
   go_wp2_with (first
    | ((with_reducible refine wpList_load_blk rfl rfl ?_ B2 Tryz.underlying46 rfl (by kernel_rfl) ?_); · rfl)
    | fail)
   refine C3.mono ?_
   clear C3 x0 B2
   rintro e w3 ⟨rfl, hst, hO⟩
   have H3 := jh (ja hst hO)
   clear hst hO
   go_wp2_with fail
   go_ret
   unfold StOut
   obtain ⟨v', a1, a2⟩ := H3.out.1
   exact ⟨rfl, ⟨v', a1, a2.mono fun k hk => by
    rcases hk with h | h
    ·exact .inl h
    ·exact .inr (by have := H2.out.size; omega)⟩, (jo H2.out).tr H3.out.2⟩
 ·have HC := jh (show applyS s r = (s, checkR r) from by unfold applyS; rw [if_pos hc])
  have hc' : (checkR r != 0) = true := bne_iff_ne.2 hc
  obtain ⟨v, hB, hI⟩ := HH.out.1
  have H3 := jh (ja (⟨v, hB.ext hw2, hI.same (js hw2)⟩ : StAt w2 P g s) hw2)
  clear hc hB hI hb2 hw2 B0 B2 h12
  go_wp2_with fail
  go_ret
  unfold StOut
  rw [HC.out]
  obtain ⟨v', a1, a2⟩ := H3.out.1
  exact ⟨rfl, ⟨v', a1, a2.mono fun k hk => .inl hk⟩, jo H3.out.2⟩
end Go.Proofs.YtcmjgghkmdbphaaGreatDoor
namespace Go.Proofs.YtcmjgghkmdbphaaGreatDoor
open Go.RowKit
def GotStN (B : Nat) (l : List Stream) (e : Ending) (w' : World) : Prop := ∃ A c, e = .returned (.slice A l.length c) ∧ StreamR.Row w' (fun k => B ≤ k) A l
theorem stakeN_any (g : Nat) (s : St) (r : Range) (P : Nat → Prop) (w : World) (h : StAt w P g s) (hS : Fit s) :
 Calls Tryz.prog 27 #[ptrV g, .agg #[.int .i64 r.first, .int .i64 r.last, .int .i64 r.owner, .int .i64 r.epoch]] w fun e w' => GotStN w.heap.size (takeT s.table r) e w' ∧ Below w.heap.size w w' := by
 obtain ⟨v, hB, hI⟩ := h
 have hb0 := (jb w.heap.size w).al (.cells #[.int .i64 r.first, .int .i64 r.last, .int .i64 r.owner, .int .i64 r.epoch] 27)
 have B0 := Blk.new w 27 [.int .i64 r.first, .int .i64 r.last, .int .i64 r.owner, .int .i64 r.epoch]
 unfold ptrV
 have HH := jh (ja hB hI.table)
 clear hB hI
 go_enter Tryz.func27, Tryz.ntmps27
 go_upto_region 1 with fail
 generalize hw1 : (w.alloc (.cells #[.int .i64 r.first, .int .i64 r.last, .int .i64 r.owner, .int .i64 r.epoch] 27)) = w1 at *
 clear hw1
 have C1 := gone_any g s.self w1 ((HH.out.1.ext hb0).cell 0) hS.self
 have C2 := take_any v.tb s.table r P w1.drew (HH.out.2.ext hb0.drew) hS.fair.len hS.fair.each
 unfold ptrV Range.val at C2
 unfold ptrV at C1
 have y5 := On.cell ((HH.out.1.ext hb0).cell 5 : w1.cell? ⟨g, 5, none⟩ = some (.pointer (some ⟨v.tb, 0, none⟩)))
 have z0 := On.cell (B0.cell 0 : w1.cell? ⟨w.heap.size, 0, none⟩ = some (.int .i64 r.first))
 have z1 := On.cell (B0.cell 1 : w1.cell? ⟨w.heap.size, 1, none⟩ = some (.int .i64 r.last))
 have z2 := On.cell (B0.cell 2 : w1.cell? ⟨w.heap.size, 2, none⟩ = some (.int .i64 r.owner))
 have z3 := On.cell (B0.cell 3 : w1.cell? ⟨w.heap.size, 3, none⟩ = some (.int .i64 r.epoch))
 have hlo := jb w1.heap.size w1
 have HB0 := jh hb0
 clear B0 hb0 hS
 go_wp2_with fail
 refine C1.mono ?_
 clear C1
 rintro e w' ⟨rfl, rfl⟩
 go_upto_region 3 with fail
 refine wp_region_mix (.seg [0, 1, 2, 3, 4] 5 (.leaf [6])) (fun w' => ∃ d : Wd (On w1), w' = d.w) (by kernel_rfl) (by kernel_rfl) (fun _ _ d _ _ h => by cases d <;> exact h) (ClsW.mk hlo.drew) ?_
 unfold wpMix; simp only [pick, j1, j2, j3, j4]
 (repeat (show wpQuiet _ _ _ _ (_ :: _) _; go_big_quiet_step (fail))); refine qn ?_
 go_wp2_with fail
 refine C2.mono ?_
 clear C2
 rintro e w3 ⟨⟨v3, rfl, ho⟩, hb3'⟩
 have hb3 : Below w1.heap.size w1 w3 := hlo.drew.tr hb3'
 obtain ⟨A3, c3, rfl, _⟩ := ho.form
 have HO := jh (ja ((ho.row (fun _ h => h)).mono (Q := fun k => w.heap.size ≤ k) fun k hk _ => by have h1 : w1.drew.heap.size = w1.heap.size := rfl; have := HB0.out.size; omega) (HB0.out.tr hb3))
 clear ho hb3'
 go_wp2_with fail
 (refine segw (D := On w1) (hb3) ?_; unfold wpMix; simp only [pick, j1, j2, j3, j4]; (repeat (show wpQuiet _ _ _ _ (_ :: _) _; go_big_quiet_step (fail))); refine qn ?_)
 clear y5 z0 z1 z2 z3 hb3 hlo
 go_wp2_with fail
 go_ret
 exact ⟨⟨_, _, rfl, HO.out.1⟩, HO.out.2⟩
end Go.Proofs.YtcmjgghkmdbphaaGreatDoor
namespace Go.Proofs.YtcmjgghkmdbphaaGreatDoor
theorem fresh_few {s : St} {N : Nat} (h : Inv s N) (hN : N ≤ 39000) : (freshT s.table).length ≤ 40000 := by
 have h1 := (fresh_len h.tab).1
 have h2 := h.size
 omega
end Go.Proofs.YtcmjgghkmdbphaaGreatDoor
