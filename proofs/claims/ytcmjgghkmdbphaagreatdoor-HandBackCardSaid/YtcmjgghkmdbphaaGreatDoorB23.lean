/- hand.Freeze: a range is to go. state.State.Frozen. hand.Copies: what goes elsewhere now. The reference's ring: SoundRing and Find of a sound ring. -/
import Derived.Test.YtcmjgghkmdbphaaGreatDoorB22
import Derived.Test.YtcmjgghkmdbphaaGreatDoorB17
import Derived.Test.YtcmjgghkmdbphaaGreatDoorB20
import Derived.Test.YtcmjgghkmdbphaaGreatDoorB02
import Derived.Test.YtcmjgghkmdbphaaGreatDoorB09
set_option maxRecDepth 20000
set_option maxHeartbeats 25600000
namespace Go.Proofs.YtcmjgghkmdbphaaGreatDoor
open Go.RowKit
def frzR (x : Range) (t : Int) : Rec := ⟨9, 0, t, false, zeroStamp, ⟨0, 0, 0⟩, [], ⟨⟨#[]⟩, []⟩, x, []⟩
def recZ : List Value := [.int .i64 0, .int .i64 0, .int .i64 0, .bool false, .int .i64 0, .int .i64 0, .int .i64 0, .int .i64 0, .int .i64 0, .int .i64 0, .slice none 0 0, .string ⟨#[]⟩, .slice none 0 0, .int .i64 0, .int .i64 0, .int .i64 0, .int .i64 0, .slice none 0 0]
def frzV (x : Range) (t : Int) : List Value := [.int .i64 9, .int .i64 0, .int .i64 t, .bool false, .int .i64 0, .int .i64 0, .int .i64 0, .int .i64 0, .int .i64 0, .int .i64 0, .slice none 0 0, .string ⟨#[]⟩, .slice none 0 0, .int .i64 x.first, .int .i64 x.last, .int .i64 x.owner, .int .i64 x.epoch, .slice none 0 0]
theorem frz_cells (x : Range) (t : Int) : (frzR x t).cells none 0 none 0 none 0 = frzV x t := rfl
theorem frz_at {w : World} {P : Nat → Prop} {x : Range} {t : Int} (hx : x.fit) (ht : i64 t) : RecAt w P (frzR x t) none 0 none 0 none 0 :=
 ⟨i64_small 9 (by omega), i64_small 0 (by omega), ht, ⟨i64_small 0 (by omega), i64_small 0 (by omega), i64_small 0 (by omega)⟩, ⟨i64_small 0 (by omega), i64_small 0 (by omega), i64_small 0 (by omega)⟩, ⟨Nat.le_refl _, by decide, Rep.Row.nil_⟩, (by show (0 : Nat) ≤ _; omega), ⟨Nat.le_refl _, by decide, Rep.Row.nil_⟩, hx, ⟨Nat.le_refl _, by decide, Rep.Row.nil_⟩⟩
theorem frz_fair {x : Range} {t : Int} : (frzR x t).Fair := ⟨by show (0 : Nat) ≤ _; decide, (fun p hp => by cases hp), by show (0 : Nat) ≤ _; decide, by show (0 : Nat) ≤ _; decide, by show (0 : Nat) ≤ _; decide, fun s hs => by cases hs⟩
theorem frz_put {x : Range} {t : Int} : PutFair (frzR x t).streams := ⟨by show (0 : Nat) ≤ _; decide, fun s hs => by cases hs⟩
def frzI (s : St) (first : Int) : Int := idxI (fun r : Range => decide (r.first = first)) s.ring
def frzX (s : St) (first : Int) : Range := s.ring.getD (frzI s first).toNat zeroRange
def frzOk (s : St) (first : Int) : Prop := 0 ≤ frzI s first ∧ (applyS s (frzR (frzX s first) 0)).2 ≠ 8 ∧ lockedS s (frzX s first) = false
def GotFreeze (s : St) (first t : Int) (e : Ending) : Prop :=
 (∃ code : Int, e = .returned (.tuple #[.agg recZ.toArray, .int .i64 code]) ∧ code ≠ 0 ∧ ¬ (frzOk s first ∧ weighs s (frzX s first) ≤ 30000 ∧ (takeT s.table (frzX s first)).length ≤ 1000)) ∨
 (e = .returned (.tuple #[.agg (frzV (frzX s first) t).toArray, .int .i64 0]) ∧ frzOk s first)
theorem frzHas_any (n : Int) (b : Nat) (r : Range) (w : World) (hb : w.cell? ⟨b, 0, none⟩ = some (.int .i64 n)) : Calls Tryz.prog 140 #[.agg #[.int .i64 r.first, .int .i64 r.last, .int .i64 r.owner, .int .i64 r.epoch], .pointer (some ⟨b, 0, none⟩)] w fun e w' => e = .returned (.bool (decide (r.first = n))) ∧ Below w.heap.size w w' := by
 have hlt := lt_of_cell hb
 have hb' : (w.alloc (.cells #[.int .i64 r.first, .int .i64 r.last, .int .i64 r.owner, .int .i64 r.epoch] 27)).cell? ⟨b, 0, none⟩ = some (.int .i64 n) := (Below.cell ((jb _ w).al _) (p := ⟨b, 0, none⟩) hlt).trans hb
 go_enter Tryz.func140, Tryz.ntmps140
 go_wp2
 go_ret
 refine ⟨ret_bool ?_, by repeat (with_reducible first | assumption | exact jb _ _ | refine Below.al ?_ _ | refine Below.drew ?_ | apply Below.st1)⟩
 go_light
 rw [Bool.eq_iff_iff]
 simp
theorem enters_frz : ∀ args w, (callFunc 140 args).run Tryz.prog w = .ok (.enter 140 args) w := enters_of Tryz.func140 (by kernel_rfl) rfl
def frzCode (s : St) (first : Int) : Int :=
 if frzI s first < 0 then 8 else if (applyS s (frzR (frzX s first) 0)).2 = 8 then 8 else if lockedS s (frzX s first) = true then 11
 else if 30000 < weighX s (frzX s first) then 2 else if 1000 < (takeT s.table (frzX s first)).length then 2 else 0
def GotFrz (s : St) (first t : Int) (e : Ending) : Prop :=
 (frzCode s first ≠ 0 ∧ e = .returned (.tuple #[.agg recZ.toArray, .int .i64 (frzCode s first)])) ∨ (frzCode s first = 0 ∧ e = .returned (.tuple #[.agg (frzV (frzX s first) t).toArray, .int .i64 0]))
theorem GotFrz.bad {s : St} {first t c : Int} (h : frzCode s first = c) (h0 : c ≠ 0) : GotFrz s first t (.returned (.tuple #[.agg recZ.toArray, .int .i64 c])) := .inl ⟨by rw [h]; exact h0, by rw [h]⟩
theorem frzCode_zero {s : St} {first : Int} (h : frzCode s first = 0) : frzOk s first ∧ weighX s (frzX s first) ≤ 30000 ∧ (takeT s.table (frzX s first)).length ≤ 1000 := by
 unfold frzCode at h
 split at h
 ·cases h
 split at h
 ·cases h
 split at h
 ·cases h
 split at h
 ·cases h
 split at h
 ·cases h
 rename_i h1 h2 h3 h4 h5
 exact ⟨⟨by omega, h2, by simpa using h3⟩, by omega, by omega⟩
theorem frzCode_no {s : St} {first : Int} (h : frzCode s first ≠ 0) : ¬ (frzOk s first ∧ weighs s (frzX s first) ≤ 30000 ∧ (takeT s.table (frzX s first)).length ≤ 1000) := by
 rintro ⟨⟨h1, h2, h3⟩, h4, h5⟩
 apply h
 have h6 := (weighX_le s (frzX s first)).2
 unfold frzCode
 rw [if_neg (by omega), if_neg h2, if_neg (by rw [h3]; decide), if_neg (by omega), if_neg (by omega)]
theorem GotFrz.old {s : St} {first t : Int} {e : Ending} (h : GotFrz s first t e) : GotFreeze s first t e := by
 rcases h with ⟨h, rfl⟩ | ⟨h, rfl⟩
 ·exact .inl ⟨_, rfl, h, frzCode_no h⟩
 ·exact .inr ⟨rfl, (frzCode_zero h).1⟩
theorem freezeH_ex (g : Nat) (s : St) (first t : Int) (P : Nat → Prop) (w : World) (h : StAt w P g s) (hS : Fit s) (hl : s.held.length ≤ 40000) (hT : Tabs w) (h2 : 2 ≤ w.heap.size) (hrl : s.ring.length ≤ 300) (hfl : (freshT s.table).length ≤ 40000) (hrf : ∀ x ∈ s.ring, x.fit) :
 Calls Tryz.prog 47 #[ptrV g, .int .i64 first, .int .i64 t] w fun e w' => GotFrz s first t e ∧ Below w.heap.size w w' := by
 have HST := jh (fun W (hW : Below w.heap.size w W) => (show StAt W P g s from by obtain ⟨v, a, b⟩ := h; exact ⟨v, a.ext hW, b.same (js hW)⟩))
 have hb1 := ((jb w.heap.size w).al (.cells #[.int .i64 first] 3)).al (.cells recZ.toArray 46)
 have B0 := (Blk.new w 3 [.int .i64 first]).alloc (.cells recZ.toArray 46)
 have B1 := Blk.new1 w (.cells #[.int .i64 first] 3) 46 recZ
 have HF := jh (ja hS (ja hl (ja hT (ja hrl (ja hfl hrf)))))
 have HB := jh (ja hb1 (ja B0 B1))
 have C1 := sranges_any g s P _ (HST.out _ hb1) hS.self (by omega)
 clear h hS hl hT hrl hfl hrf hb1 B0 B1
 unfold GotOwn ptrV at C1
 unfold ptrV
 unfold recZ at C1 HB
 go_enter Tryz.func47, Tryz.ntmps47
 go_wp2_with fail
 refine C1.mono ?_
 clear C1
 rintro e w1 ⟨⟨v, rfl, ho⟩, hb1⟩
 obtain ⟨A, c, rfl, _⟩ := ho.form
 have HW := jh (ja (HB.out.1.tr hb1) (ja (HB.out.2.1.ext hb1) (ja (HB.out.2.2.ext hb1) (ho.row' range_plain (P := fun _ => True) fun _ _ => trivial))))
 clear ho hb1 HB
 have CI := idxF_Range 140 [.pointer (some ⟨w.heap.size, 0, none⟩)] (fun r => decide (r.first = first)) enters_frz A c s.ring (fun _ => True) w1 HW.out.2.2.2 (by have := HF.out.2.2.2.1; omega) (fun a cs W' _ ha hb' => by
  obtain ⟨rfl, _⟩ := range_rep.1 ha
  exact frzHas_any first w.heap.size a W' ((HW.out.2.1.ext hb').cell 0))
 go_wp2_with fail
 refine CI.mono ?_
 clear CI
 rintro e w2 ⟨rfl, hb2⟩
 have HW2 := jh (ja (HW.out.1.tr hb2) (ja (HW.out.2.2.1.ext hb2) (HW.out.2.2.2.ext hb2)))
 clear hb2 HW
 have HI := jh (show frzI s first = idxI (fun r => decide (r.first = first)) s.ring from rfl)
 obtain ⟨hbd1, hbd2⟩ := idxI_bd (fun r : Range => decide (r.first = first)) s.ring
 generalize idxI (fun r => decide (r.first = first)) s.ring = i at *
 have hl300 := HF.out.2.2.2.1
 by_cases hi : i < 0
 ·have HN := jh (show frzCode s first = 8 from by unfold frzCode; rw [if_pos (by rw [HI.out]; exact hi)])
  go_wp2_with (first
   | (refine wpList_store_blk (cs := recZ) rfl rfl rfl rfl rfl HW2.out.2.1 (by kernel_rfl) rfl (by simp [recZ, Value.oneCell']) ?_; intro w9 hB9 hO9 hz9)
   | fail)
  exact bodyPost_ret (results_blk_tmp (t := 46) (cs := recZ) rfl _ hB9 rfl Tryz.underlying46 rfl (by kernel_rfl)) rfl ⟨.bad HN.out (by decide), HW2.out.1.trans (hO9.low (fun k e => by have e' : k = w.heap.size + 1 := e; omega) HW2.out.1.size)⟩
 ·obtain ⟨k, rfl⟩ : ∃ k : Nat, i = k := ⟨i.toNat, by omega⟩
  have hkl : k < s.ring.length := by omega
  have hlk := jg hkl
  have HX := jh (show frzX s first = s.ring[k] from by unfold frzX; rw [HI.out]; simp [List.getD, hlk])
  have hxf := HF.out.2.2.2.2.2 _ (List.getElem_mem hkl)
  have hi' : decide ((k : Int) < 0) = false := jd hi
  obtain ⟨b, o, cs, rfl, _, hbw, hrep, hcs⟩ := HW2.out.2.2.at_ hlk
  generalize s.ring[k] = x at *
  obtain ⟨rfl, _⟩ := range_rep.1 hrep
  have c0 := hcs 0 _ rfl; have c1 := hcs 1 _ rfl; have c2 := hcs 2 _ rfl; have c3 := hcs 3 _ rfl; simp only [RangeR_size, Nat.add_zero] at c0 c1 c2 c3
  have HIC := jh (ja hlk hxf)
  clear hlk hrep hcs hi hbd1 hbd2
  have CT := tried_any g s (frzR x 0) (.inr (.inl rfl)) none none none 0 0 0 P (fun _ => True) w2 (HST.out w2 HW2.out.1) HF.out.1 (frz_at hxf (i64_small 0 (by omega))) frz_fair (HF.out.2.2.1.below HW2.out.1) (by have := HW2.out.1.size; omega) frz_put HF.out.2.2.2.1 HF.out.2.2.2.2.1
  rw [frz_cells] at CT
  unfold frzV ptrV at CT
  clear hxf
  go_wp2_with fail
  refine CT.mono ?_
  clear CT c0 c1 c2 c3
  rintro e w3 ⟨rfl, hb3⟩
  have HC := jh (show (applyS s (frzR (frzX s first) 0)).2 = (applyS s (frzR x 0)).2 from by rw [HX.out])
  have HW3 := jh (ja (HW2.out.1.tr hb3) (ja (HW2.out.2.1.ext hb3) (HW2.out.2.2.ext hb3)))
  clear hb3 HW2
  generalize (applyS s (frzR x 0)).2 = code at *
  by_cases h8 : code = 8
  ·have HN := jh (show frzCode s first = 8 from by unfold frzCode; rw [if_neg (by rw [HI.out]; omega), if_pos (HC.out.trans h8)])
   subst h8
   go_wp2_with (first
    | (refine wpList_store_blk (cs := recZ) rfl rfl rfl rfl rfl HW3.out.2.1 (by kernel_rfl) rfl (by simp [recZ, Value.oneCell']) ?_; intro w9 hB9 hO9 hz9)
    | fail)
   exact bodyPost_ret (results_blk_tmp (t := 46) (cs := recZ) rfl _ hB9 rfl Tryz.underlying46 rfl (by kernel_rfl)) rfl ⟨.bad HN.out (by decide), HW3.out.1.trans (hO9.low (fun k e => by have e' : k = w.heap.size + 1 := e; omega) HW3.out.1.size)⟩
  ·have h8' : (code == 8) = false := by rw [beq_eq_false_iff_ne]; exact h8
   have HN8 := jh (show (applyS s (frzR (frzX s first) 0)).2 ≠ 8 from by rw [HC.out]; exact h8)
   clear h8
   obtain ⟨b', o', cs, hA, _, hbw', hrep, hcs⟩ := HW3.out.2.2.at_ HIC.out.1
   injection hA with hA
   injection hA with hA1 hA2
   subst hA1
   subst hA2
   obtain ⟨rfl, _⟩ := range_rep.1 hrep
   have c0 := hcs 0 _ rfl; have c1 := hcs 1 _ rfl; have c2 := hcs 2 _ rfl; have c3 := hcs 3 _ rfl; simp only [RangeR_size, Nat.add_zero] at c0 c1 c2 c3
   clear hrep hcs
   go_upto_region 6 with fail
   have hbx := (jb w3.heap.size w3).al (.cells #[.int .i64 x.first, .int .i64 x.last, .int .i64 x.owner, .int .i64 x.epoch] 27)
   have HW4 := jh (ja (HW3.out.1.tr hbx) (ja (HW3.out.2.1.ext hbx) (ja (HW3.out.2.2.ext hbx) (Blk.new w3 27 [.int .i64 x.first, .int .i64 x.last, .int .i64 x.owner, .int .i64 x.epoch]))))
   clear hbx HW3 c0 c1 c2 c3
   generalize w3.alloc (.cells #[.int .i64 x.first, .int .i64 x.last, .int .i64 x.owner, .int .i64 x.epoch] 27) = w4 at *
   have q0 := HW4.out.2.2.2.cell
   have hq := HW4.out.2.2.2.lt
   have CL := locked_any g s x P w4 (HST.out w4 HW4.out.1) HF.out.1.self (fun y hy => by have := (HF.out.1.held y hy).few; omega)
   unfold ptrV at CL
   cases hlo : lockedS s x
   ·rw [hlo] at CL
    have HL := jh (show lockedS s (frzX s first) = false from by rw [HX.out]; exact hlo)
    have HOK := jh (show frzCode s first = if 30000 < weighX s (frzX s first) then 2 else if 1000 < (takeT s.table (frzX s first)).length then 2 else 0 from by unfold frzCode; rw [if_neg (by rw [HI.out]; omega), if_neg HN8.out, if_neg (by rw [HL.out]; decide)])
    clear hlo
    go_wp2_with fail
    refine CL.mono ?_
    clear CL q0 hq
    rintro e w5 ⟨rfl, hb5⟩
    have HW5 := jh (ja (HW4.out.1.tr hb5) (ja (HW4.out.2.1.ext hb5) (ja (HW4.out.2.2.1.ext hb5) (HW4.out.2.2.2.ext hb5))))
    clear hb5 HW4
    have q0 := HW5.out.2.2.2.cell
    have hq := HW5.out.2.2.2.lt
    have CW := weight_ex g s x P w5 (HST.out w5 HW5.out.1) HF.out.1 HF.out.2.1 (HF.out.2.2.1.below HW5.out.1) (by have := HW5.out.1.size; omega)
    have HXW := jh (show weighX s (frzX s first) = weighX s x from by rw [HX.out])
    generalize hnn : weighX s x = n at *
    replace hnn := jh hnn
    unfold ptrV at CW
    go_wp2_with fail
    refine CW.mono ?_
    clear CW q0 hq
    rintro e w6 ⟨rfl, hb6⟩
    have HW6 := jh (ja (HW5.out.1.tr hb6) (ja (HW5.out.2.1.ext hb6) (ja (HW5.out.2.2.1.ext hb6) (HW5.out.2.2.2.ext hb6))))
    clear hb6 HW5
    have q0 := HW6.out.2.2.2.cell
    have hq := HW6.out.2.2.2.lt
    by_cases hbig : 30000 < n
    ·have HY := jh (show frzCode s first = 2 from by rw [HOK.out, HXW.out, if_pos hbig])
     go_wp2_with (first
      | (refine wpList_store_blk (cs := recZ) rfl rfl rfl rfl rfl HW6.out.2.1 (by kernel_rfl) rfl (by simp [recZ, Value.oneCell']) ?_; intro w9 hB9 hO9 hz9)
      | fail)
     exact bodyPost_ret (results_blk_tmp (t := 46) (cs := recZ) rfl _ hB9 rfl Tryz.underlying46 rfl (by kernel_rfl)) rfl ⟨.bad HY.out (by decide), HW6.out.1.trans (hO9.low (fun k e => by have e' : k = w.heap.size + 1 := e; omega) HW6.out.1.size)⟩
    ·have hbig' : decide ((30000 : Int) < n) = false := jd hbig
     have HOK2 := jh (show frzCode s first = if 1000 < (takeT s.table (frzX s first)).length then 2 else 0 from by rw [HOK.out, HXW.out, if_neg hbig])
     have CK := stakeN_any g s x P w6 (HST.out w6 HW6.out.1) HF.out.1
     unfold GotStN ptrV at CK
     have HTL := jh (show (takeT s.table (frzX s first)).length = (takeT s.table x).length from by rw [HX.out])
     clear hbig
     go_wp2_with fail
     refine CK.mono ?_
     clear CK q0 hq
     rintro e w7 ⟨⟨A7, c7, rfl, _⟩, hb7⟩
     have HW7 := jh (ja (HW6.out.1.tr hb7) (ja (HW6.out.2.1.ext hb7) (HW6.out.2.2.1.ext hb7)))
     clear hb7 HW6
     generalize (takeT s.table x).length = tl at *
     by_cases ht : (1000 : Int) < tl
     ·have HY := jh (show frzCode s first = 2 from by rw [HOK2.out, HTL.out, if_pos (by omega)])
      go_wp2_with (first
       | (refine wpList_store_blk (cs := recZ) rfl rfl rfl rfl rfl HW7.out.2.1 (by kernel_rfl) rfl (by simp [recZ, Value.oneCell']) ?_; intro w9 hB9 hO9 hz9)
       | fail)
      exact bodyPost_ret (results_blk_tmp (t := 46) (cs := recZ) rfl _ hB9 rfl Tryz.underlying46 rfl (by kernel_rfl)) rfl ⟨.bad HY.out (by decide), HW7.out.1.trans (hO9.low (fun k e => by have e' : k = w.heap.size + 1 := e; omega) HW7.out.1.size)⟩
     ·have ht' : decide ((1000 : Int) < tl) = false := jd ht
      have HY := jh (show frzCode s first = 0 from by rw [HOK2.out, HTL.out, if_neg (by omega)])
      clear ht
      obtain ⟨b', o', cs, hA, _, hbw', hrep, hcs⟩ := HW7.out.2.2.at_ HIC.out.1
      injection hA with hA
      injection hA with hA1 hA2
      subst hA1
      subst hA2
      obtain ⟨rfl, _⟩ := range_rep.1 hrep
      have c0 := hcs 0 _ rfl; have c1 := hcs 1 _ rfl; have c2 := hcs 2 _ rfl; have c3 := hcs 3 _ rfl; simp only [RangeR_size, Nat.add_zero] at c0 c1 c2 c3
      clear hrep hcs
      go_wp2_with (first
       | (refine wpList_store_blk (cs := frzV x t) rfl rfl rfl rfl rfl HW7.out.2.1 (by kernel_rfl) rfl (by simp [frzV, Value.oneCell']) ?_; intro w9 hB9 hO9 hz9)
       | fail)
      exact bodyPost_ret (results_blk_tmp (t := 46) (cs := frzV x t) rfl _ hB9 rfl Tryz.underlying46 rfl (by kernel_rfl)) rfl ⟨.inr ⟨HY.out, by rw [HX.out]; rfl⟩, HW7.out.1.trans (hO9.low (fun k e => by have e' : k = w.heap.size + 1 := e; omega) HW7.out.1.size)⟩
   ·rw [hlo] at CL
    have HN := jh (show frzCode s first = 11 from by unfold frzCode; rw [if_neg (by rw [HI.out]; omega), if_neg HN8.out, if_pos (by rw [HX.out]; exact hlo)])
    clear hlo
    go_wp2_with fail
    refine CL.mono ?_
    clear CL q0 hq
    rintro e w5 ⟨rfl, hb5⟩
    have HW5 := jh (ja (HW4.out.1.tr hb5) (HW4.out.2.1.ext hb5))
    clear hb5 HW4
    go_wp2_with (first
     | (refine wpList_store_blk (cs := recZ) rfl rfl rfl rfl rfl HW5.out.2 (by kernel_rfl) rfl (by simp [recZ, Value.oneCell']) ?_; intro w9 hB9 hO9 hz9)
     | fail)
    exact bodyPost_ret (results_blk_tmp (t := 46) (cs := recZ) rfl _ hB9 rfl Tryz.underlying46 rfl (by kernel_rfl)) rfl ⟨.bad HN.out (by decide), HW5.out.1.trans (hO9.low (fun k e => by have e' : k = w.heap.size + 1 := e; omega) HW5.out.1.size)⟩
theorem freezeH_any (g : Nat) (s : St) (first t : Int) (P : Nat → Prop) (w : World) (h : StAt w P g s) (hS : Fit s) (hl : s.held.length ≤ 40000) (hT : Tabs w) (h2 : 2 ≤ w.heap.size) (hrl : s.ring.length ≤ 300) (hfl : (freshT s.table).length ≤ 40000) (hrf : ∀ x ∈ s.ring, x.fit) :
 Calls Tryz.prog 47 #[ptrV g, .int .i64 first, .int .i64 t] w fun e w' => GotFreeze s first t e ∧ Below w.heap.size w w' :=
 (freezeH_ex g s first t P w h hS hl hT h2 hrl hfl hrf).mono fun _ _ q => ⟨q.1.old, q.2⟩
end Go.Proofs.YtcmjgghkmdbphaaGreatDoor
namespace Go.Proofs.YtcmjgghkmdbphaaGreatDoor
open Go.RowKit
theorem sfrozen_any (g : Nat) (s : St) (P : Nat → Prop) (w : World) (h : StAt w P g s) (hs : s.self ≠ 0) (hl : s.frozen.length ≤ 1000000) : Calls Tryz.prog 147 #[ptrV g] w fun e w' => GotOwn RecR w.heap.size 46 (fun k => w.heap.size ≤ k ∨ P k) s.frozen e w' ∧ Below w.heap.size w w' := by
 obtain ⟨v, hB, hI⟩ := h
 have b0 : w.cell? ⟨g, 0, none⟩ = some (.int .i64 s.self) := hB.cell 0
 have b4 : w.cell? ⟨g, 9, none⟩ = some v.frozen := hB.cell 9
 have C1 := gone_any g s.self w b0 hs
 obtain ⟨A, c, hv, hc1, hc2, hrow⟩ := hI.frozen
 have hvl : v.frozen = .slice A s.frozen.length c := by injection hv
 rw [hvl] at b4
 have C2 := clone_Rec A c s.frozen P w hrow (by omega)
 unfold GotOwn at C2
 clear hB hI hv hvl hrow hc1 hc2 hl b0
 unfold ptrV at C1 ⊢
 go_enter Tryz.func147, Tryz.ntmps147
 go_wp2_with fail
 refine C1.mono ?_
 clear C1
 rintro e w' ⟨rfl, rfl⟩
 go_wp2_with fail
 refine C2.mono ?_
 clear C2 b4
 rintro e w' ⟨⟨v2, rfl, hv2⟩, hb2⟩
 have HV := jh (ja hv2 hb2)
 obtain ⟨A2, c2, rfl, _⟩ := hv2.form
 clear hv2 hb2
 go_wp2_with fail
 go_ret
 exact ⟨⟨_, rfl, HV.out.1⟩, HV.out.2⟩
end Go.Proofs.YtcmjgghkmdbphaaGreatDoor
namespace Go.Proofs.YtcmjgghkmdbphaaGreatDoor
open Go.RowKit
structure Copy where
 range : Range
 floor : Stamp
 streams : List Stream
def CopyR : Rep Copy := (RangeR.cat (StampR.cat StreamR.sl)).via fun c => (c.range, c.floor, c.streams)
def Copy.cells (c : Copy) (A : Option Addr) (q : Nat) : List Value := [.int .i64 c.range.first, .int .i64 c.range.last, .int .i64 c.range.owner, .int .i64 c.range.epoch, .int .i64 c.floor.wall, .int .i64 c.floor.logic, .int .i64 c.floor.node, .slice A c.streams.length q]
theorem copy_rep {w : World} {P : Nat → Prop} {cs : List Value} {c : Copy} : CopyR.rep w P cs c ↔ ∃ A q, cs = c.cells A q ∧ c.range.fit ∧ c.floor.fit ∧ c.streams.length ≤ q ∧ q ≤ 9223372036854775807 ∧ StreamR.Row w P A c.streams := by
 constructor
 ·rintro ⟨c1, c2, rfl, hr, c3, c4, rfl, hs, A, q, rfl, h3, h4, h5⟩
  obtain ⟨rfl, h1⟩ := range_rep.1 hr
  obtain ⟨rfl, h2⟩ := stamp_rep.1 hs
  exact ⟨A, q, rfl, h1, h2, h3, h4, h5⟩
 ·rintro ⟨A, q, rfl, h1, h2, h3, h4, h5⟩
  exact ⟨_, _, rfl, range_rep.2 ⟨rfl, h1⟩, _, _, rfl, stamp_rep.2 ⟨rfl, h2⟩, A, q, rfl, h3, h4, h5⟩
theorem copy_info : (Tryz.prog.info? 139).map (fun i => (i.zero, i.size, i.bytes)) = some (some (.agg #[.int .i64 0, .int .i64 0, .int .i64 0, .int .i64 0, .int .i64 0, .int .i64 0, .int .i64 0, .slice none 0 0]), 8, 80) := by kernel_rfl
def copyOf (s : St) (now : Stamp) (f : Rec) : List Copy := if lockedS s f.range then [] else [⟨⟨f.range.first, f.range.last, f.to, f.range.epoch + 1⟩, now, takeT s.table f.range⟩]
def copiesP (s : St) (now : Stamp) : List Copy := s.frozen.flatMap (copyOf s now)
theorem copies_take {s : St} {now : Stamp} {k : Nat} (h : k < s.frozen.length) : (s.frozen.take (k + 1)).flatMap (copyOf s now) = (s.frozen.take k).flatMap (copyOf s now) ++ copyOf s now s.frozen[k] := by
 rw [take_snoc _ _ h, List.flatMap_append]; simp
theorem copies_len (s : St) (now : Stamp) (l : List Rec) : (l.flatMap (copyOf s now)).length ≤ l.length := by
 induction l with
 | nil => simp
 | cons a l ih =>
   rw [List.flatMap_cons, List.length_append, List.length_cons]
   have : (copyOf s now a).length ≤ 1 := by unfold copyOf; split <;> simp
   omega
structure CpD (nb xb yb : Nat) (ns xs ys : List Value) (B : Nat) (W0 W : World) : Prop where
 n : Blk W nb 40 ns
 x : Blk W xb 46 xs
 y : Blk W yb 27 ys
 b : Below B W0 W
section
variable {nb xb yb B : Nat} {ns xs ys : List Value} {W0 W W' : World}
theorem CpD.cn (i : Nat) (d : Wd (CpD nb xb yb ns xs ys B W0)) : d.w.cell? ⟨nb, i, none⟩ = ns[i]? := d.ok.n.cell i
theorem CpD.cx (i : Nat) (d : Wd (CpD nb xb yb ns xs ys B W0)) : d.w.cell? ⟨xb, i, none⟩ = xs[i]? := d.ok.x.cell i
theorem CpD.cy (i : Nat) (d : Wd (CpD nb xb yb ns xs ys B W0)) : d.w.cell? ⟨yb, i, none⟩ = ys[i]? := d.ok.y.cell i
theorem CpD.drew (h : CpD nb xb yb ns xs ys B W0 W) : CpD nb xb yb ns xs ys B W0 W.drew := ⟨h.n.drew, h.x.drew, h.y.drew, h.b.drew⟩
theorem CpD.ext (h : CpD nb xb yb ns xs ys B W0 W) (hB : B ≤ W.heap.size) (hb : Below W.heap.size W W') : CpD nb xb yb ns xs ys B W0 W' := ⟨h.n.ext hb, h.x.ext hb, h.y.ext hb, h.b.trans (hb.mono hB)⟩
end
theorem copies_any (g : Nat) (s : St) (now : Stamp) (P : Nat → Prop) (w : World) (h : StAt w P g s) (hS : Fit s) (hn : now.fit) (hfl : s.frozen.length ≤ 1000) (hfr : ∀ f ∈ s.frozen, 1 ≤ f.range.epoch ∧ f.range.epoch ≤ 1099511627776) :
 Calls Tryz.prog 71 #[ptrV g, .agg #[.int .i64 now.wall, .int .i64 now.logic, .int .i64 now.node]] w fun e w' => GotOwn CopyR w.heap.size 139 (fun k => w.heap.size ≤ k) (copiesP s now) e w' ∧ Below w.heap.size w w' := by
 have HST := jh (fun W (hW : Below w.heap.size w W) => (show StAt W (fun k => P k ∧ k < w.heap.size) g s from by obtain ⟨v, a, b⟩ := h; exact ⟨v, a.ext hW, b.low.same (js hW)⟩))
 have hb0 := (jb w.heap.size w).al (.cells #[.int .i64 now.wall, .int .i64 now.logic, .int .i64 now.node] 40)
 have B0 := Blk.new w 40 [.int .i64 now.wall, .int .i64 now.logic, .int .i64 now.node]
 have C1 := sfrozen_any g s _ _ (HST.out _ hb0) hS.self (by omega)
 have HF := jh (ja hS (ja hn (ja hfl hfr)))
 have HB := jh (ja hb0 B0)
 clear h hS hn hfl hfr hb0 B0
 unfold GotOwn ptrV at C1
 unfold ptrV
 go_enter Tryz.func71, Tryz.ntmps71
 go_wp2_with fail
 refine C1.mono ?_
 clear C1
 rintro e w1 ⟨⟨v, rfl, ho⟩, hb1⟩
 obtain ⟨A, c, rfl, _⟩ := ho.form
 have HW := jh (ja (HB.out.1.tr hb1) (ja (HB.out.2.ext hb1) ((ho.row (fun _ hk => .inl hk)).mono (Q := fun k => w.heap.size ≤ k ∨ (P k ∧ k < w.heap.size)) (fun k hk _ => hk.elim (fun q => .inl (Nat.le_trans HB.out.1.size q)) .inr))))
 clear ho hb1 HB
 go_wp2_with fail
 go_loopw [4, 11] (fun ov iv wr => ∃ k : Nat, k ≤ s.frozen.length ∧ iv = .int .i64 k ∧ CopyR.Own wr w1.heap.size 139 (fun q => w.heap.size ≤ q) ov ((s.frozen.take k).flatMap (copyOf s now)) ∧ Below w1.heap.size w1 wr) (fun _ iv _ => s.frozen.length - (intOf iv).toNat)
 case atStart => exact ⟨0, Nat.zero_le _, rfl, by simpa using Rep.Own.nil_, jb _ _⟩
 case round =>
  obtain ⟨k, hk, rfl, hown, hbl⟩ := hrel
  have hzr := hbl.size
  have hl1000 := HF.out.2.2.1
  by_cases hlt : k < s.frozen.length
  ·have hlt' : (k : Int) < s.frozen.length := by omega
   have hlk := jg hlt
   have hts := copies_take (now := now) hlt
   have hfe := HF.out.2.2.2 _ (List.getElem_mem hlt)
   have hcl := copies_len s now (s.frozen.take k)
   rw [List.length_take] at hcl
   obtain ⟨b, o, nA, nc, pA, pc, sA, sc, rfl, hbw, hrec, hcs⟩ := recs_at (HW.out.2.2.ext hbl) hlk
   generalize s.frozen[k] = f at *
   generalize (s.frozen.take k).flatMap (copyOf s now) = L at *
   have HX := jh (ja hown (ja hbl (ja hts (ja hrec.range hrec.to))))
   have hll : L.length ≤ 1000 := by omega
   obtain ⟨hfe1, hfe2⟩ := hfe
   unfold Rec.cells at hcs
   have HCS := jh hcs
   clear hown hbl hts hlk hrec hcs hcl
   have hbx := (jb wr.heap.size wr).al (.cells #[.int .i64 f.kind, .int .i64 f.n, .int .i64 f.to, .bool f.yes, .int .i64 f.stamp.wall, .int .i64 f.stamp.logic, .int .i64 f.stamp.node, .int .i64 f.tx.node, .int .i64 f.tx.life, .int .i64 f.tx.num, .slice nA f.nodes.length nc, .string f.batch.key, .slice pA f.batch.puts.length pc, .int .i64 f.range.first, .int .i64 f.range.last, .int .i64 f.range.owner, .int .i64 f.range.epoch, .slice sA f.streams.length sc] 46)
   have BX := Blk.new wr 46 [.int .i64 f.kind, .int .i64 f.n, .int .i64 f.to, .bool f.yes, .int .i64 f.stamp.wall, .int .i64 f.stamp.logic, .int .i64 f.stamp.node, .int .i64 f.tx.node, .int .i64 f.tx.life, .int .i64 f.tx.num, .slice nA f.nodes.length nc, .string f.batch.key, .slice pA f.batch.puts.length pc, .int .i64 f.range.first, .int .i64 f.range.last, .int .i64 f.range.owner, .int .i64 f.range.epoch, .slice sA f.streams.length sc]
   go_upto_region 4 with (first
    | ((with_reducible refine wpList_load_at rfl rfl ?_ HCS.out Tryz.underlying46 rfl (by kernel_rfl) ?_); · rfl)
    | (refine wpList_store_new (cs := #[.int .i64 f.kind, .int .i64 f.n, .int .i64 f.to, .bool f.yes, .int .i64 f.stamp.wall, .int .i64 f.stamp.logic, .int .i64 f.stamp.node, .int .i64 f.tx.node, .int .i64 f.tx.life, .int .i64 f.tx.num, .slice nA f.nodes.length nc, .string f.batch.key, .slice pA f.batch.puts.length pc, .int .i64 f.range.first, .int .i64 f.range.last, .int .i64 f.range.owner, .int .i64 f.range.epoch, .slice sA f.streams.length sc]) rfl rfl rfl rfl rfl (by kernel_rfl) rfl (by simp [Value.oneCell']) ?_)
    | fail)
   have hwx0 : Below w.heap.size w (wr.alloc (.cells #[.int .i64 f.kind, .int .i64 f.n, .int .i64 f.to, .bool f.yes, .int .i64 f.stamp.wall, .int .i64 f.stamp.logic, .int .i64 f.stamp.node, .int .i64 f.tx.node, .int .i64 f.tx.life, .int .i64 f.tx.num, .slice nA f.nodes.length nc, .string f.batch.key, .slice pA f.batch.puts.length pc, .int .i64 f.range.first, .int .i64 f.range.last, .int .i64 f.range.owner, .int .i64 f.range.epoch, .slice sA f.streams.length sc] 46)) := (HW.out.1.tr HX.out.2.1).tr hbx
   have HBX := jh (ja BX (ja hbx hwx0))
   clear BX hbx hwx0
   generalize wr.alloc (.cells #[.int .i64 f.kind, .int .i64 f.n, .int .i64 f.to, .bool f.yes, .int .i64 f.stamp.wall, .int .i64 f.stamp.logic, .int .i64 f.stamp.node, .int .i64 f.tx.node, .int .i64 f.tx.life, .int .i64 f.tx.num, .slice nA f.nodes.length nc, .string f.batch.key, .slice pA f.batch.puts.length pc, .int .i64 f.range.first, .int .i64 f.range.last, .int .i64 f.range.owner, .int .i64 f.range.epoch, .slice sA f.streams.length sc] 46) = wx at *
   have x0 := HBX.out.1.cell
   have hxl := HBX.out.1.lt
   have CL := locked_any g s f.range _ wx (HST.out wx HBX.out.2.2) HF.out.1.self (fun y hy => by have := (HF.out.1.held y hy).few; omega)
   unfold ptrV at CL
   cases hlo : lockedS s f.range
   ·rw [hlo] at CL
    have HCO := jh (show copyOf s now f = [⟨⟨f.range.first, f.range.last, f.to, f.range.epoch + 1⟩, now, takeT s.table f.range⟩] from by unfold copyOf; rw [hlo]; rfl)
    clear hlo
    go_wp2_with fail
    refine CL.mono ?_
    clear CL x0 hxl
    rintro e w3 ⟨rfl, hb3⟩
    have H3 := jh (ja (HBX.out.1.ext hb3) (HBX.out.2.1.tr hb3))
    clear hb3 HBX
    have x0 := H3.out.1.cell
    have hxl := H3.out.1.lt
    go_upto_region 6 with (first
     | (refine wpList_store_new (cs := #[.int .i64 f.range.first, .int .i64 f.range.last, .int .i64 f.range.owner, .int .i64 f.range.epoch]) rfl rfl rfl rfl rfl (by kernel_rfl) rfl (by simp [Value.oneCell']) ?_)
     | fail)
    have hb4 := H3.out.2.al (.cells #[.int .i64 f.range.first, .int .i64 f.range.last, .int .i64 f.range.owner, .int .i64 f.range.epoch] 27)
    have B4 := H3.out.1.alloc (.cells #[.int .i64 f.range.first, .int .i64 f.range.last, .int .i64 f.range.owner, .int .i64 f.range.epoch] 27)
    have Y4 := Blk.new w3 27 [.int .i64 f.range.first, .int .i64 f.range.last, .int .i64 f.range.owner, .int .i64 f.range.epoch]
    have hz4 := H3.out.2.size
    generalize hw4 : w3.alloc (.cells #[.int .i64 f.range.first, .int .i64 f.range.last, .int .i64 f.range.owner, .int .i64 f.range.epoch] 27) = w4 at *
    clear hw4 x0 hxl
    have x0 := B4.cell
    have hxl := B4.lt
    have y0 := Y4.cell
    have hyl := Y4.lt
    have yf := Y4.frozen
    go_upto_region 7 with fail
    have hbS := (((HX.out.2.1.tr hb4).st (p := ⟨w3.heap.size, 2, none⟩) (by have := HX.out.2.1.size; have := H3.out.2.size; show _ ≤ w3.heap.size; omega) (.int .i64 f.to)).st (p := ⟨w3.heap.size, 3, none⟩) (by have := HX.out.2.1.size; have := H3.out.2.size; show _ ≤ w3.heap.size; omega) (.int .i64 (f.range.epoch + 1)))
    have hbR := (((hb4).st (p := ⟨w3.heap.size, 2, none⟩) (by have := H3.out.2.size; show _ ≤ w3.heap.size; omega) (.int .i64 f.to)).st (p := ⟨w3.heap.size, 3, none⟩) (by have := H3.out.2.size; show _ ≤ w3.heap.size; omega) (.int .i64 (f.range.epoch + 1)))
    have hne : wr.heap.size ≠ w3.heap.size := by have := H3.out.1.lt; omega
    have Y5 := (Y4.set_ 2 (.int .i64 f.to)).set_ 3 (.int .i64 (f.range.epoch + 1))
    have B5 := (B4.far (p := ⟨w3.heap.size, 2, none⟩) hne (.int .i64 f.to)).far (p := ⟨w3.heap.size, 3, none⟩) hne (.int .i64 (f.range.epoch + 1))
    generalize hw5 : ((w4.setCell ⟨w3.heap.size, 2, none⟩ (.int .i64 f.to)).setCell ⟨w3.heap.size, 3, none⟩ (.int .i64 (f.range.epoch + 1))) = w5 at *
    clear hw5 x0 hxl y0 hyl yf Y4 B4 hb4 hz4
    have hD : CpD w.heap.size wr.heap.size w3.heap.size [.int .i64 now.wall, .int .i64 now.logic, .int .i64 now.node] [.int .i64 f.kind, .int .i64 f.n, .int .i64 f.to, .bool f.yes, .int .i64 f.stamp.wall, .int .i64 f.stamp.logic, .int .i64 f.stamp.node, .int .i64 f.tx.node, .int .i64 f.tx.life, .int .i64 f.tx.num, .slice nA f.nodes.length nc, .string f.batch.key, .slice pA f.batch.puts.length pc, .int .i64 f.range.first, .int .i64 f.range.last, .int .i64 f.range.owner, .int .i64 f.range.epoch, .slice sA f.streams.length sc] [.int .i64 f.range.first, .int .i64 f.range.last, .int .i64 f.to, .int .i64 (f.range.epoch + 1)] w1.heap.size w1 w5 := ⟨HW.out.2.1.ext hbS, B5, Y5, hbS⟩
    have HD := jh (ja hD (ja hbR hne))
    haveI : Nonempty (Wd (CpD w.heap.size wr.heap.size w3.heap.size [.int .i64 now.wall, .int .i64 now.logic, .int .i64 now.node] [.int .i64 f.kind, .int .i64 f.n, .int .i64 f.to, .bool f.yes, .int .i64 f.stamp.wall, .int .i64 f.stamp.logic, .int .i64 f.stamp.node, .int .i64 f.tx.node, .int .i64 f.tx.life, .int .i64 f.tx.num, .slice nA f.nodes.length nc, .string f.batch.key, .slice pA f.batch.puts.length pc, .int .i64 f.range.first, .int .i64 f.range.last, .int .i64 f.range.owner, .int .i64 f.range.epoch, .slice sA f.streams.length sc] [.int .i64 f.range.first, .int .i64 f.range.last, .int .i64 f.to, .int .i64 (f.range.epoch + 1)] w1.heap.size w1)) := ⟨⟨_, hD⟩⟩
    clear hbS hbR hne Y5 B5
    have n0 : ∀ d : Wd (CpD w.heap.size wr.heap.size w3.heap.size [.int .i64 now.wall, .int .i64 now.logic, .int .i64 now.node] [.int .i64 f.kind, .int .i64 f.n, .int .i64 f.to, .bool f.yes, .int .i64 f.stamp.wall, .int .i64 f.stamp.logic, .int .i64 f.stamp.node, .int .i64 f.tx.node, .int .i64 f.tx.life, .int .i64 f.tx.num, .slice nA f.nodes.length nc, .string f.batch.key, .slice pA f.batch.puts.length pc, .int .i64 f.range.first, .int .i64 f.range.last, .int .i64 f.range.owner, .int .i64 f.range.epoch, .slice sA f.streams.length sc] [.int .i64 f.range.first, .int .i64 f.range.last, .int .i64 f.to, .int .i64 (f.range.epoch + 1)] w1.heap.size w1), d.w.cell? ⟨w.heap.size, 0, none⟩ = some (.int .i64 now.wall) := CpD.cn 0
    have n1 : ∀ d : Wd (CpD w.heap.size wr.heap.size w3.heap.size [.int .i64 now.wall, .int .i64 now.logic, .int .i64 now.node] [.int .i64 f.kind, .int .i64 f.n, .int .i64 f.to, .bool f.yes, .int .i64 f.stamp.wall, .int .i64 f.stamp.logic, .int .i64 f.stamp.node, .int .i64 f.tx.node, .int .i64 f.tx.life, .int .i64 f.tx.num, .slice nA f.nodes.length nc, .string f.batch.key, .slice pA f.batch.puts.length pc, .int .i64 f.range.first, .int .i64 f.range.last, .int .i64 f.range.owner, .int .i64 f.range.epoch, .slice sA f.streams.length sc] [.int .i64 f.range.first, .int .i64 f.range.last, .int .i64 f.to, .int .i64 (f.range.epoch + 1)] w1.heap.size w1), d.w.cell? ⟨w.heap.size, 1, none⟩ = some (.int .i64 now.logic) := CpD.cn 1
    have n2 : ∀ d : Wd (CpD w.heap.size wr.heap.size w3.heap.size [.int .i64 now.wall, .int .i64 now.logic, .int .i64 now.node] [.int .i64 f.kind, .int .i64 f.n, .int .i64 f.to, .bool f.yes, .int .i64 f.stamp.wall, .int .i64 f.stamp.logic, .int .i64 f.stamp.node, .int .i64 f.tx.node, .int .i64 f.tx.life, .int .i64 f.tx.num, .slice nA f.nodes.length nc, .string f.batch.key, .slice pA f.batch.puts.length pc, .int .i64 f.range.first, .int .i64 f.range.last, .int .i64 f.range.owner, .int .i64 f.range.epoch, .slice sA f.streams.length sc] [.int .i64 f.range.first, .int .i64 f.range.last, .int .i64 f.to, .int .i64 (f.range.epoch + 1)] w1.heap.size w1), d.w.cell? ⟨w.heap.size, 2, none⟩ = some (.int .i64 now.node) := CpD.cn 2
    have x13 : ∀ d : Wd (CpD w.heap.size wr.heap.size w3.heap.size [.int .i64 now.wall, .int .i64 now.logic, .int .i64 now.node] [.int .i64 f.kind, .int .i64 f.n, .int .i64 f.to, .bool f.yes, .int .i64 f.stamp.wall, .int .i64 f.stamp.logic, .int .i64 f.stamp.node, .int .i64 f.tx.node, .int .i64 f.tx.life, .int .i64 f.tx.num, .slice nA f.nodes.length nc, .string f.batch.key, .slice pA f.batch.puts.length pc, .int .i64 f.range.first, .int .i64 f.range.last, .int .i64 f.range.owner, .int .i64 f.range.epoch, .slice sA f.streams.length sc] [.int .i64 f.range.first, .int .i64 f.range.last, .int .i64 f.to, .int .i64 (f.range.epoch + 1)] w1.heap.size w1), d.w.cell? ⟨wr.heap.size, 13, none⟩ = some (.int .i64 f.range.first) := CpD.cx 13
    have x14 : ∀ d : Wd (CpD w.heap.size wr.heap.size w3.heap.size [.int .i64 now.wall, .int .i64 now.logic, .int .i64 now.node] [.int .i64 f.kind, .int .i64 f.n, .int .i64 f.to, .bool f.yes, .int .i64 f.stamp.wall, .int .i64 f.stamp.logic, .int .i64 f.stamp.node, .int .i64 f.tx.node, .int .i64 f.tx.life, .int .i64 f.tx.num, .slice nA f.nodes.length nc, .string f.batch.key, .slice pA f.batch.puts.length pc, .int .i64 f.range.first, .int .i64 f.range.last, .int .i64 f.range.owner, .int .i64 f.range.epoch, .slice sA f.streams.length sc] [.int .i64 f.range.first, .int .i64 f.range.last, .int .i64 f.to, .int .i64 (f.range.epoch + 1)] w1.heap.size w1), d.w.cell? ⟨wr.heap.size, 14, none⟩ = some (.int .i64 f.range.last) := CpD.cx 14
    have x15 : ∀ d : Wd (CpD w.heap.size wr.heap.size w3.heap.size [.int .i64 now.wall, .int .i64 now.logic, .int .i64 now.node] [.int .i64 f.kind, .int .i64 f.n, .int .i64 f.to, .bool f.yes, .int .i64 f.stamp.wall, .int .i64 f.stamp.logic, .int .i64 f.stamp.node, .int .i64 f.tx.node, .int .i64 f.tx.life, .int .i64 f.tx.num, .slice nA f.nodes.length nc, .string f.batch.key, .slice pA f.batch.puts.length pc, .int .i64 f.range.first, .int .i64 f.range.last, .int .i64 f.range.owner, .int .i64 f.range.epoch, .slice sA f.streams.length sc] [.int .i64 f.range.first, .int .i64 f.range.last, .int .i64 f.to, .int .i64 (f.range.epoch + 1)] w1.heap.size w1), d.w.cell? ⟨wr.heap.size, 15, none⟩ = some (.int .i64 f.range.owner) := CpD.cx 15
    have x16 : ∀ d : Wd (CpD w.heap.size wr.heap.size w3.heap.size [.int .i64 now.wall, .int .i64 now.logic, .int .i64 now.node] [.int .i64 f.kind, .int .i64 f.n, .int .i64 f.to, .bool f.yes, .int .i64 f.stamp.wall, .int .i64 f.stamp.logic, .int .i64 f.stamp.node, .int .i64 f.tx.node, .int .i64 f.tx.life, .int .i64 f.tx.num, .slice nA f.nodes.length nc, .string f.batch.key, .slice pA f.batch.puts.length pc, .int .i64 f.range.first, .int .i64 f.range.last, .int .i64 f.range.owner, .int .i64 f.range.epoch, .slice sA f.streams.length sc] [.int .i64 f.range.first, .int .i64 f.range.last, .int .i64 f.to, .int .i64 (f.range.epoch + 1)] w1.heap.size w1), d.w.cell? ⟨wr.heap.size, 16, none⟩ = some (.int .i64 f.range.epoch) := CpD.cx 16
    have y0 : ∀ d : Wd (CpD w.heap.size wr.heap.size w3.heap.size [.int .i64 now.wall, .int .i64 now.logic, .int .i64 now.node] [.int .i64 f.kind, .int .i64 f.n, .int .i64 f.to, .bool f.yes, .int .i64 f.stamp.wall, .int .i64 f.stamp.logic, .int .i64 f.stamp.node, .int .i64 f.tx.node, .int .i64 f.tx.life, .int .i64 f.tx.num, .slice nA f.nodes.length nc, .string f.batch.key, .slice pA f.batch.puts.length pc, .int .i64 f.range.first, .int .i64 f.range.last, .int .i64 f.range.owner, .int .i64 f.range.epoch, .slice sA f.streams.length sc] [.int .i64 f.range.first, .int .i64 f.range.last, .int .i64 f.to, .int .i64 (f.range.epoch + 1)] w1.heap.size w1), d.w.cell? ⟨w3.heap.size, 0, none⟩ = some (.int .i64 f.range.first) := CpD.cy 0
    have y1 : ∀ d : Wd (CpD w.heap.size wr.heap.size w3.heap.size [.int .i64 now.wall, .int .i64 now.logic, .int .i64 now.node] [.int .i64 f.kind, .int .i64 f.n, .int .i64 f.to, .bool f.yes, .int .i64 f.stamp.wall, .int .i64 f.stamp.logic, .int .i64 f.stamp.node, .int .i64 f.tx.node, .int .i64 f.tx.life, .int .i64 f.tx.num, .slice nA f.nodes.length nc, .string f.batch.key, .slice pA f.batch.puts.length pc, .int .i64 f.range.first, .int .i64 f.range.last, .int .i64 f.range.owner, .int .i64 f.range.epoch, .slice sA f.streams.length sc] [.int .i64 f.range.first, .int .i64 f.range.last, .int .i64 f.to, .int .i64 (f.range.epoch + 1)] w1.heap.size w1), d.w.cell? ⟨w3.heap.size, 1, none⟩ = some (.int .i64 f.range.last) := CpD.cy 1
    have y2 : ∀ d : Wd (CpD w.heap.size wr.heap.size w3.heap.size [.int .i64 now.wall, .int .i64 now.logic, .int .i64 now.node] [.int .i64 f.kind, .int .i64 f.n, .int .i64 f.to, .bool f.yes, .int .i64 f.stamp.wall, .int .i64 f.stamp.logic, .int .i64 f.stamp.node, .int .i64 f.tx.node, .int .i64 f.tx.life, .int .i64 f.tx.num, .slice nA f.nodes.length nc, .string f.batch.key, .slice pA f.batch.puts.length pc, .int .i64 f.range.first, .int .i64 f.range.last, .int .i64 f.range.owner, .int .i64 f.range.epoch, .slice sA f.streams.length sc] [.int .i64 f.range.first, .int .i64 f.range.last, .int .i64 f.to, .int .i64 (f.range.epoch + 1)] w1.heap.size w1), d.w.cell? ⟨w3.heap.size, 2, none⟩ = some (.int .i64 f.to) := CpD.cy 2
    have y3 : ∀ d : Wd (CpD w.heap.size wr.heap.size w3.heap.size [.int .i64 now.wall, .int .i64 now.logic, .int .i64 now.node] [.int .i64 f.kind, .int .i64 f.n, .int .i64 f.to, .bool f.yes, .int .i64 f.stamp.wall, .int .i64 f.stamp.logic, .int .i64 f.stamp.node, .int .i64 f.tx.node, .int .i64 f.tx.life, .int .i64 f.tx.num, .slice nA f.nodes.length nc, .string f.batch.key, .slice pA f.batch.puts.length pc, .int .i64 f.range.first, .int .i64 f.range.last, .int .i64 f.range.owner, .int .i64 f.range.epoch, .slice sA f.streams.length sc] [.int .i64 f.range.first, .int .i64 f.range.last, .int .i64 f.to, .int .i64 (f.range.epoch + 1)] w1.heap.size w1), d.w.cell? ⟨w3.heap.size, 3, none⟩ = some (.int .i64 (f.range.epoch + 1)) := CpD.cy 3
    refine wp_region_mix (.seg [0, 1, 2, 3, 4, 5] 6 (.seg [7] 8 (.seg [] 9 (.leaf [10])))) (fun w' => ∃ d : Wd (CpD w.heap.size wr.heap.size w3.heap.size [.int .i64 now.wall, .int .i64 now.logic, .int .i64 now.node] [.int .i64 f.kind, .int .i64 f.n, .int .i64 f.to, .bool f.yes, .int .i64 f.stamp.wall, .int .i64 f.stamp.logic, .int .i64 f.stamp.node, .int .i64 f.tx.node, .int .i64 f.tx.life, .int .i64 f.tx.num, .slice nA f.nodes.length nc, .string f.batch.key, .slice pA f.batch.puts.length pc, .int .i64 f.range.first, .int .i64 f.range.last, .int .i64 f.range.owner, .int .i64 f.range.epoch, .slice sA f.streams.length sc] [.int .i64 f.range.first, .int .i64 f.range.last, .int .i64 f.to, .int .i64 (f.range.epoch + 1)] w1.heap.size w1), w' = d.w) (by kernel_rfl) (by kernel_rfl) (fun _ _ d _ _ h => by cases d <;> exact h) (ClsW.mk (D := CpD w.heap.size wr.heap.size w3.heap.size [.int .i64 now.wall, .int .i64 now.logic, .int .i64 now.node] [.int .i64 f.kind, .int .i64 f.n, .int .i64 f.to, .bool f.yes, .int .i64 f.stamp.wall, .int .i64 f.stamp.logic, .int .i64 f.stamp.node, .int .i64 f.tx.node, .int .i64 f.tx.life, .int .i64 f.tx.num, .slice nA f.nodes.length nc, .string f.batch.key, .slice pA f.batch.puts.length pc, .int .i64 f.range.first, .int .i64 f.range.last, .int .i64 f.range.owner, .int .i64 f.range.epoch, .slice sA f.streams.length sc] [.int .i64 f.range.first, .int .i64 f.range.last, .int .i64 f.to, .int .i64 (f.range.epoch + 1)] w1.heap.size w1) hD.drew) ?_
    unfold wpMix; simp only [pick, j1, j2, j3, j4]
    (repeat (show wpQuiet _ _ _ _ (_ :: _) _; go_big_quiet_step (fail))); refine qn ?_
    have CT := stakeB_any g s f.range _ w5.drew (HST.out w5.drew (HW.out.1.tr (HD.out.1.b.drew))) HF.out.1
    unfold GotStB ptrV at CT
    go_wp2_with fail
    refine CT.mono ?_
    clear CT
    rintro e w7 ⟨⟨A7, c7, rfl, hcap7, hr7⟩, hb7⟩
    have hz5 : w5.drew.heap.size = w5.heap.size := rfl
    have hz51 := HD.out.1.b.size
    have hz5r := HD.out.2.1.size
    have hz7 := hb7.size
    have hD7 : CpD w.heap.size wr.heap.size w3.heap.size [.int .i64 now.wall, .int .i64 now.logic, .int .i64 now.node] [.int .i64 f.kind, .int .i64 f.n, .int .i64 f.to, .bool f.yes, .int .i64 f.stamp.wall, .int .i64 f.stamp.logic, .int .i64 f.stamp.node, .int .i64 f.tx.node, .int .i64 f.tx.life, .int .i64 f.tx.num, .slice nA f.nodes.length nc, .string f.batch.key, .slice pA f.batch.puts.length pc, .int .i64 f.range.first, .int .i64 f.range.last, .int .i64 f.range.owner, .int .i64 f.range.epoch, .slice sA f.streams.length sc] [.int .i64 f.range.first, .int .i64 f.range.last, .int .i64 f.to, .int .i64 (f.range.epoch + 1)] w1.heap.size w1 w7 := HD.out.1.drew.ext (by omega) hb7
    have hD8 : CpD w.heap.size wr.heap.size w3.heap.size [.int .i64 now.wall, .int .i64 now.logic, .int .i64 now.node] [.int .i64 f.kind, .int .i64 f.n, .int .i64 f.to, .bool f.yes, .int .i64 f.stamp.wall, .int .i64 f.stamp.logic, .int .i64 f.stamp.node, .int .i64 f.tx.node, .int .i64 f.tx.life, .int .i64 f.tx.num, .slice nA f.nodes.length nc, .string f.batch.key, .slice pA f.batch.puts.length pc, .int .i64 f.range.first, .int .i64 f.range.last, .int .i64 f.range.owner, .int .i64 f.range.epoch, .slice sA f.streams.length sc] [.int .i64 f.range.first, .int .i64 f.range.last, .int .i64 f.to, .int .i64 (f.range.epoch + 1)] w1.heap.size w1 (w7.alloc (.cells #[.int .i64 f.range.first, .int .i64 f.range.last, .int .i64 f.to, .int .i64 (f.range.epoch + 1), .int .i64 now.wall, .int .i64 now.logic, .int .i64 now.node, .slice A7 (takeT s.table f.range).length c7] 139)) := hD7.ext (by omega) (jb _ _ |>.al _)
    have H7 := jh (ja hcap7 (ja hr7 (ja hb7 hD7)))
    clear hcap7 hr7 hb7
    go_wp2_with fail
    (refine segw (D := CpD w.heap.size wr.heap.size w3.heap.size [.int .i64 now.wall, .int .i64 now.logic, .int .i64 now.node] [.int .i64 f.kind, .int .i64 f.n, .int .i64 f.to, .bool f.yes, .int .i64 f.stamp.wall, .int .i64 f.stamp.logic, .int .i64 f.stamp.node, .int .i64 f.tx.node, .int .i64 f.tx.life, .int .i64 f.tx.num, .slice nA f.nodes.length nc, .string f.batch.key, .slice pA f.batch.puts.length pc, .int .i64 f.range.first, .int .i64 f.range.last, .int .i64 f.range.owner, .int .i64 f.range.epoch, .slice sA f.streams.length sc] [.int .i64 f.range.first, .int .i64 f.range.last, .int .i64 f.to, .int .i64 (f.range.epoch + 1)] w1.heap.size w1) (hD7) ?_; unfold wpMix; simp only [pick, j1, j2, j3, j4]; (repeat (show wpQuiet _ _ _ _ (_ :: _) _; go_big_quiet_step (fail))); refine qn ?_)
    go_wp2_with fail
    (refine segw (D := CpD w.heap.size wr.heap.size w3.heap.size [.int .i64 now.wall, .int .i64 now.logic, .int .i64 now.node] [.int .i64 f.kind, .int .i64 f.n, .int .i64 f.to, .bool f.yes, .int .i64 f.stamp.wall, .int .i64 f.stamp.logic, .int .i64 f.stamp.node, .int .i64 f.tx.node, .int .i64 f.tx.life, .int .i64 f.tx.num, .slice nA f.nodes.length nc, .string f.batch.key, .slice pA f.batch.puts.length pc, .int .i64 f.range.first, .int .i64 f.range.last, .int .i64 f.range.owner, .int .i64 f.range.epoch, .slice sA f.streams.length sc] [.int .i64 f.range.first, .int .i64 f.range.last, .int .i64 f.to, .int .i64 (f.range.epoch + 1)] w1.heap.size w1) (hD8) ?_; unfold wpMix; simp only [pick, j1, j2, j3, j4]; (repeat (show wpQuiet _ _ _ _ (_ :: _) _; go_big_quiet_step (fail))); refine qn ?_)
    have hfn := HF.out.2.1
    obtain ⟨i0, r1, r2, r3, r4⟩ := info_parts copy_info
    have hown7 := HX.out.1.ext (HD.out.2.1.tr (Below.trans ((jb w5.heap.size w5).drew) (H7.out.2.2.1)))
    have hrep7 : CopyR.rep w7 (fun q => w5.drew.heap.size ≤ q) ((⟨⟨f.range.first, f.range.last, f.to, f.range.epoch + 1⟩, now, takeT s.table f.range⟩ : Copy).cells A7 c7) (⟨⟨f.range.first, f.range.last, f.to, f.range.epoch + 1⟩, now, takeT s.table f.range⟩ : Copy) := copy_rep.2 ⟨A7, c7, rfl, ⟨HX.out.2.2.2.1.1, HX.out.2.2.2.1.2.1, HX.out.2.2.2.2, by show i64 (f.range.epoch + 1); exact ⟨by omega, by omega⟩⟩, hfn, H7.out.1.1, H7.out.1.2, H7.out.2.1⟩
    refine wpList_append_new (R := CopyR) (cs := (⟨⟨f.range.first, f.range.last, f.to, f.range.epoch + 1⟩, now, takeT s.table f.range⟩ : Copy).cells A7 c7) w7 rfl (.tmp 28) (.tmp 36) _ rfl w1.heap.size 139 i0 _ 80 Tryz.underlying145 r1 r2 r3 r4 rfl _ L (fun q => w.heap.size ≤ q) rfl hown7 (fun q hq => by have := HW.out.1.size; omega) rfl (fun q => w5.drew.heap.size ≤ q) (⟨⟨f.range.first, f.range.last, f.to, f.range.epoch + 1⟩, now, takeT s.table f.range⟩ : Copy) hrep7 (fun q h1 h2 => ⟨by have := HW.out.1.size; omega, fun e => by
     have h3 := (HX.out.1.lt q e.symm).2
     omega⟩) (by unfold maxLen; omega) (by omega) (by omega) ?_
    intro v8 w8 ho8 hg8 hat8 hne8 hb8
    have hO8 : Only (fun q => w1.heap.size ≤ q ∧ q < wr.heap.size) w7 w8 := Only.grown hg8 fun q e => HX.out.1.lt q e
    have hD9 : CpD w.heap.size wr.heap.size w3.heap.size [.int .i64 now.wall, .int .i64 now.logic, .int .i64 now.node] [.int .i64 f.kind, .int .i64 f.n, .int .i64 f.to, .bool f.yes, .int .i64 f.stamp.wall, .int .i64 f.stamp.logic, .int .i64 f.stamp.node, .int .i64 f.tx.node, .int .i64 f.tx.life, .int .i64 f.tx.num, .slice nA f.nodes.length nc, .string f.batch.key, .slice pA f.batch.puts.length pc, .int .i64 f.range.first, .int .i64 f.range.last, .int .i64 f.range.owner, .int .i64 f.range.epoch, .slice sA f.streams.length sc] [.int .i64 f.range.first, .int .i64 f.range.last, .int .i64 f.to, .int .i64 (f.range.epoch + 1)] w1.heap.size w1 w8 := ⟨hD7.n.only hO8 (fun e => by have := HW.out.2.1.lt; omega), hD7.x.only hO8 (fun e => by omega), hD7.y.only hO8 (fun e => by have := HD.out.1.x.lt; have := H3.out.2.size; omega), hD7.b.trans hb8⟩
    have H8 := jh (ja ho8 (hD7.b.trans hb8))
    clear ho8 hg8 hat8 hne8 hb8 hO8 hD8 hD7 hD hown7 hrep7 r1 r2 r3 r4
    go_simp
    (refine segw (D := CpD w.heap.size wr.heap.size w3.heap.size [.int .i64 now.wall, .int .i64 now.logic, .int .i64 now.node] [.int .i64 f.kind, .int .i64 f.n, .int .i64 f.to, .bool f.yes, .int .i64 f.stamp.wall, .int .i64 f.stamp.logic, .int .i64 f.stamp.node, .int .i64 f.tx.node, .int .i64 f.tx.life, .int .i64 f.tx.num, .slice nA f.nodes.length nc, .string f.batch.key, .slice pA f.batch.puts.length pc, .int .i64 f.range.first, .int .i64 f.range.last, .int .i64 f.range.owner, .int .i64 f.range.epoch, .slice sA f.streams.length sc] [.int .i64 f.range.first, .int .i64 f.range.last, .int .i64 f.to, .int .i64 (f.range.epoch + 1)] w1.heap.size w1) (hD9) ?_; unfold wpMix; simp only [pick, j1, j2, j3, j4]; (repeat (show wpQuiet _ _ _ _ (_ :: _) _; go_big_quiet_step (fail))); refine qn ?_)
    clear hD9 n0 n1 n2 x13 x14 x15 x16 y0 y1 y2 y3
    go_wp2_with fail
    go_round
    case rel => exact ⟨k + 1, by omega, by go_num, by rw [HX.out.2.2.1, HCO.out]; exact H8.out.1, H8.out.2⟩
    case measure => simp [intOf]; omega
   ·rw [hlo] at CL
    have HCO := jh (show copyOf s now f = [] from by unfold copyOf; rw [hlo]; rfl)
    clear hlo
    go_wp2_with fail
    refine CL.mono ?_
    clear CL x0 hxl
    rintro e w3 ⟨rfl, hb3⟩
    have HB := jh (ja (HX.out.1.ext (HBX.out.2.1.tr hb3)) (HX.out.2.1.tr (HBX.out.2.1.tr hb3)))
    clear hb3 HBX
    go_wp2_with fail
    go_round
    case rel => exact ⟨k + 1, by omega, by go_num, by rw [HX.out.2.2.1, HCO.out, List.append_nil]; exact HB.out.1, HB.out.2⟩
    case measure => simp [intOf]; omega
  ·have hkn : k = s.frozen.length := by omega
   subst hkn
   rw [List.take_length] at hown
   obtain ⟨Ao, co, rfl, _⟩ := hown.form
   have HO := jh (ja hown hbl)
   clear hown hbl
   go_wp2_with fail
   go_ret
   exact ⟨⟨_, rfl, HO.out.1.base' HW.out.1.size⟩, HW.out.1.tr HO.out.2⟩
end Go.Proofs.YtcmjgghkmdbphaaGreatDoor
namespace Go.Proofs.YtcmjgghkmdbphaaGreatDoor
open Go.RowKit
theorem rsound_any (A : Option Addr) (c : Nat) (l : List Range) (P : Nat → Prop) (w : World) (hr : RangeR.Row w P A l) (hs : soundR l = true) :
 Calls Tryz.prog 241 #[.slice A l.length c] w fun e w' => e = .returned (.bool true) ∧ Below w.heap.size w w' := by
 have HR := jh hr; clear hr
 have HL := jh (sound_iff.1 hs); clear hs
 go_enter Tryz.func241, Tryz.ntmps241
 go_wp2_with fail
 go_loopw [3, 4] (fun nx i wr => ∃ (k : Nat) (n : Int), k ≤ l.length ∧ i = .int .i64 k ∧ nx = .int .i64 n ∧ 0 ≤ n ∧ soundFrom (l.drop k) n = some 4294967296 ∧ Below w.heap.size w wr) (fun _ i _ => l.length - (intOf i).toNat)
 case atStart => exact ⟨0, 0, Nat.zero_le _, rfl, rfl, by omega, HL.out.1, jb _ _⟩
 case round =>
  obtain ⟨k, n, hk, rfl, rfl, hn0, hs, hbl⟩ := hrel
  have HS := jh hs; clear hs
  by_cases hlt : k < l.length
  ·have hlk := jg hlt
   have hd := soundFrom_drop l k n hlt
   generalize l[k] = x at hlk hd
   obtain ⟨b, o, cs, rfl, hP, hbw, hrep, hcs⟩ := (HR.out.ext hbl).at_ hlk
   obtain ⟨rfl, hf⟩ := range_rep.1 hrep
   have hok : (x.first = n ∧ n ≤ x.last ∧ x.last ≤ 4294967295 ∧ ownedB x = true) ∧ soundFrom (l.drop (k + 1)) (x.last + 1) = some 4294967296 := by
    have h1 := HS.out
    rw [hd] at h1
    split at h1
    ·rename_i h2; exact ⟨h2, h1⟩
    ·cases h1
   obtain ⟨⟨h1, h2, h3, h4⟩, h5⟩ := hok
   obtain ⟨h6, h7, h8, h9⟩ := ownedB_iff.1 h4
   subst h1
   have HD := jh (ja (show 0 ≤ x.last + 1 by omega) (ja h3 h5))
   have c0 := hcs 0 _ rfl; have c1 := hcs 1 _ rfl; have c2 := hcs 2 _ rfl; have c3 := hcs 3 _ rfl; simp only [RangeR_size, Nat.add_zero] at c0 c1 c2 c3
   clear hd hcs hrep hlk h4 h5
   have hlt' : (k : Int) < l.length := by omega
   have hbx := (jb wr.heap.size wr).al (.cells #[.int .i64 x.first, .int .i64 x.last, .int .i64 x.owner, .int .i64 x.epoch] 27)
   have hWK : Hid (wrap64 ((k : Int) + 1) = ((k + 1 : Nat) : Int)) := jh (by have := HL.out.2; rw [wrap_in _ (by omega)]; rfl)
   have hxw : Hid (wrap64 (x.last + 1) = x.last + 1) := jh (wrap_in _ (by have := hf; omega))
   have g2 : decide (x.last < x.first) = false := jd (by omega)
   have g3 : decide (4294967295 < x.last) = false := jd (by omega)
   have g4 : decide (x.owner < 1) = false := jd (by omega)
   have g5 : decide (5 < x.owner) = false := jd (by omega)
   have g6 : decide (x.epoch < 1) = false := jd (by omega)
   have g7 : decide (1099511627776 < x.epoch) = false := jd (by omega)
   clear h2 h3 h6 h7 h8 h9
   go_wp2_with fail
   go_round
   case rel =>
    exact ⟨k + 1, x.last + 1, by omega, by rw [hWK.out], by rw [hxw.out], HD.out.1, HD.out.2.2, hbl.tr hbx⟩
   case measure => rw [hWK.out]; simp [intOf]; omega
  ·have hkn : k = l.length := by omega
   subst hkn
   have hs := HS.out
   rw [List.drop_length] at hs
   have hn1 : n = 4294967296 := by injection hs
   clear hs
   subst hn1
   have h64' : (l.length : Int) ≤ 64 := by have := HL.out.2; omega
   go_wp2_with fail
   go_ret
   exact ⟨rfl, hbl⟩
theorem rfind_any (A : Option Addr) (c : Nat) (l : List Range) (h : Int) (P : Nat → Prop) (w : World) (hr : RangeR.Row w P A l) (hs : soundR l = true) (h0 : 0 ≤ h) (h1 : h < 4294967296) :
 Calls Tryz.prog 162 #[.slice A l.length c, .int .i64 h] w fun e w' => e = .returned (Found (findR l h).1 (findR l h).2) ∧ Below w.heap.size w w' := by
 have hb0 := (jb w.heap.size w).al (.cells #[.int .i64 0, .int .i64 0, .int .i64 0, .int .i64 0] 27)
 have B0 := Blk.new w 27 [.int .i64 0, .int .i64 0, .int .i64 0, .int .i64 0]
 have CS := rsound_any A c l P (w.alloc (.cells #[.int .i64 0, .int .i64 0, .int .i64 0, .int .i64 0] 27)) (hr.ext hb0) hs
 have HR := jh (hr.mono (Q := fun g => g < w.heap.size) fun g _ h => h); clear hr
 have HS := jh (ja hs (ja h0 h1)); clear hs h0 h1
 go_enter Tryz.func162, Tryz.ntmps162
 go_wp2_with fail
 refine CS.mono ?_
 clear CS
 rintro e w1 ⟨rfl, hb1⟩
 have H1 := jh (ja (hb0.tr hb1) (B0.ext hb1))
 clear B0 hb0 hb1
 go_wp2_with fail
 go_loopw [6] (fun i wr => ∃ k : Nat, k ≤ l.length ∧ i = .int .i64 k ∧ (∀ x ∈ l.take k, x.has h = false) ∧ Below w.heap.size w wr ∧ Blk wr w.heap.size 27 [.int .i64 0, .int .i64 0, .int .i64 0, .int .i64 0]) (fun i _ => l.length - (intOf i).toNat)
 case atStart => exact ⟨0, Nat.zero_le _, rfl, by simp, H1.out.1, H1.out.2⟩
 case round =>
  obtain ⟨k, hk, rfl, hno, hw1, B1⟩ := hrel
  have HNO := jh hno; clear hno
  by_cases hlt : k < l.length
  ·have hlk := jg hlt
   have hmem : l[k] ∈ l := List.getElem_mem hlt
   have htk : l.take (k + 1) = l.take k ++ [l[k]] := (List.take_append_getElem hlt).symm
   generalize l[k] = x at hlk hmem htk
   obtain ⟨b, o, cs, rfl, hP, hbw, hrep, hcs⟩ := (HR.out.ext hw1).at_ hlk
   obtain ⟨rfl, hf⟩ := range_rep.1 hrep
   have c0 := hcs 0 _ rfl; have c1 := hcs 1 _ rfl; have c2 := hcs 2 _ rfl; have c3 := hcs 3 _ rfl; simp only [RangeR_size, Nat.add_zero] at c0 c1 c2 c3
   have HB := jh B1
   have HM := jh (ja hmem htk)
   have hWK : Hid (wrap64 ((k : Int) + 1) = ((k + 1 : Nat) : Int)) := jh (by have := (sound_iff.1 HS.out.1).2; rw [wrap_in _ (by omega)]; rfl)
   clear hrep hcs hlk hmem htk
   have hlt' : (k : Int) < l.length := by omega
   have hne : b ≠ w.heap.size := by omega
   have hcase : (x.first ≤ h ∧ h ≤ x.last) ∨ (x.first ≤ h ∧ ¬ h ≤ x.last) ∨ ¬ x.first ≤ h := by omega
   rcases hcase with ⟨g1, g2⟩ | ⟨g1, g2⟩ | g1
   ·have HF := jh (find_eq HS.out.1 HS.out.2.1 HS.out.2.2 HM.out.1 (has_iff.2 ⟨g1, g2⟩))
    have f0 := B1.frozen 0
    have f1 := B1.frozen 1
    have f2 := B1.frozen 2
    have f3 := B1.frozen 3
    have b0 := B1.cell 0
    have b1 := B1.cell 1
    have b2 := B1.cell 2
    have b3 := B1.cell 3
    simp only [List.getElem?_cons_zero, List.getElem?_cons_succ] at b0 b1 b2 b3
    clear B1
    go_wp2_with fail
    rw [HF.out]
    exact bodyPost_ret (results_blk_tmp rfl _ ((((HB.out.set_ 0 (.int .i64 x.first)).set_ 1 (.int .i64 x.last)).set_ 2 (.int .i64 x.owner)).set_ 3 (.int .i64 x.epoch)) rfl Tryz.underlying27 rfl (by kernel_rfl)) rfl ⟨rfl, (((hw1.st (Nat.le_refl _) _).st (Nat.le_refl _) _).st (Nat.le_refl _) _).st (Nat.le_refl _) _⟩
   ·have g2' : decide (h ≤ x.last) = false := jd g2
    have HX := jh (show x.has h = false from by rw [← Bool.not_eq_true, has_iff]; exact fun a => g2 a.2)
    clear g2
    go_wp2_with fail
    go_round
    case rel =>
     refine ⟨k + 1, by omega, by rw [hWK.out], ?_, hw1, HB.out⟩
     rw [HM.out.2]
     intro y hy
     rcases List.mem_append.1 hy with hy | hy
     ·exact HNO.out y hy
     ·rw [List.mem_singleton.1 hy]; exact HX.out
    case measure => rw [hWK.out]; simp [intOf]; omega
   ·have g1' : decide (x.first ≤ h) = false := jd g1
    have HX := jh (show x.has h = false from by rw [← Bool.not_eq_true, has_iff]; exact fun a => g1 a.1)
    clear g1
    go_wp2_with fail
    go_round
    case rel =>
     refine ⟨k + 1, by omega, by rw [hWK.out], ?_, hw1, HB.out⟩
     rw [HM.out.2]
     intro y hy
     rcases List.mem_append.1 hy with hy | hy
     ·exact HNO.out y hy
     ·rw [List.mem_singleton.1 hy]; exact HX.out
    case measure => rw [hWK.out]; simp [intOf]; omega
  ·exfalso
   have hkn : k = l.length := by omega
   subst hkn
   obtain ⟨x, hx, hh⟩ := soundFrom_cover (sound_iff.1 HS.out.1).1 HS.out.2.1 HS.out.2.2
   have := HNO.out x (by rw [List.take_length]; exact hx)
   rw [hh] at this; cases this
end Go.Proofs.YtcmjgghkmdbphaaGreatDoor
