/- ring: owned, Sound, at, Find, Of. The table and the state in memory. tables that answer alike; a table made anew (plain law). The table and the state in memory: where each part lies. Ranging over a map: its entries come one by one, in whatever order. Look-ups whose answer is known. -/
import Derived.Test.YtcmjgghkmdbphaaGreatDoorO07
import Derived.Test.YtcmjgghkmdbphaaGreatDoorO03
import Derived.Test.YtcmjgghkmdbphaaGreatDoorO06
import Derived.Test.YtcmjgghkmdbphaaGreatDoorO05
import Derived.Maps.RangeWalk
set_option maxRecDepth 20000
set_option maxHeartbeats 25600000
namespace Go.Proofs.YtcmjgghkmdbphaaGreatDoor
open Go.RowKit
def Range.val (r : Range) : Value := .agg #[.int .i64 r.first, .int .i64 r.last, .int .i64 r.owner, .int .i64 r.epoch]
attribute [local go_sem] Range.val
theorem owned_any (r : Range) (w : World) : Calls Tryz.prog 270 #[r.val] w fun e w' => e = .returned (.bool (ownedB r)) ∧ Below w.heap.size w w' := by
 unfold Range.val
 obtain ⟨a, b, c, d⟩ := r
 have hp : ownedB ⟨a, b, c, d⟩ = ownedB ⟨a, b, c, d⟩ := rfl
 conv at hp => rhs; simp only [ownedB]
 rw [hp]
 clear hp
 go_enter Tryz.func270, Tryz.ntmps270
 go_wp2
 all_goals
  go_ret
  refine ⟨ret_bool ?_, by repeat (with_reducible first | assumption | exact jb _ _ | refine Below.al ?_ _ | refine Below.drew ?_ | apply Below.st1)⟩
  go_light
  rw [Bool.eq_iff_iff]
  simp at *
  omega
theorem soundFrom_drop (l : List Range) (k : Nat) (n : Int) (h : k < l.length) : soundFrom (l.drop k) n = if l[k].first = n ∧ n ≤ l[k].last ∧ l[k].last ≤ 4294967295 ∧ ownedB l[k] = true then soundFrom (l.drop (k + 1)) (l[k].last + 1) else none := by
 rw [List.drop_eq_getElem_cons h]; rfl
theorem soundR_any (A : Option Addr) (c : Nat) (l : List Range) (P : Nat → Prop) (w : World) (hr : RangeR.Row w P A l) (hl : l.length ≤ 1000000) :
 Calls Tryz.prog 269 #[.slice A l.length c] w fun e w' => e = .returned (.bool (soundR l)) ∧ Below w.heap.size w w' := by
 have HR := jh hr; clear hr
 have HL := jh hl; clear hl
 have CO := jh (fun r W => owned_any r W)
 unfold Range.val at CO
 go_enter Tryz.func269, Tryz.ntmps269
 go_wp2_with fail
 go_loopw [3, 8] (fun nx i wr => ∃ (k : Nat) (n : Int), k ≤ l.length ∧ i = .int .i64 k ∧ nx = .int .i64 n ∧ (0 ≤ n ∧ n ≤ 4294967296) ∧ soundFrom (l.drop k) n = soundFrom l 0 ∧ Below w.heap.size w wr) (fun _ i _ => l.length - (intOf i).toNat)
 case atStart => exact ⟨0, 0, Nat.zero_le _, rfl, rfl, by omega, rfl, jb _ _⟩
 case round =>
  obtain ⟨k, n, hk, rfl, rfl, hn, hs, hbl⟩ := hrel
  have HS := jh hs; clear hs
  by_cases hlt : k < l.length
  ·have hlk := jg hlt
   have hd := soundFrom_drop l k n hlt
   generalize l[k] = x at hlk hd
   obtain ⟨b, o, cs, rfl, hP, hbw, hrep, hcs⟩ := (HR.out.ext hbl).at_ hlk
   obtain ⟨rfl, hf⟩ := range_rep.1 hrep
   have HD := jh hd
   have c0 := hcs 0 _ rfl; have c1 := hcs 1 _ rfl; have c2 := hcs 2 _ rfl; have c3 := hcs 3 _ rfl; simp only [RangeR_size, Nat.add_zero] at c0 c1 c2 c3
   clear hd hcs hrep hlk
   have hlt' : (k : Int) < l.length := by omega
   have hbx := (jb wr.heap.size wr).al (.cells #[.int .i64 x.first, .int .i64 x.last, .int .i64 x.owner, .int .i64 x.epoch] 27)
   have hWK : Hid (wrap64 ((k : Int) + 1) = ((k + 1 : Nat) : Int)) := jh (by have := HL.out; rw [wrap_in _ (by omega)]; rfl)
   have hbad : (x.first = n ∧ n ≤ x.last ∧ x.last ≤ 4294967295 → ownedB x = false) → false = soundR l := fun h => by
    have h1 := HD.out
    rw [if_neg (fun hh => by have := h ⟨hh.1, hh.2.1, hh.2.2.1⟩; rw [this] at hh; exact absurd hh.2.2.2 (by simp)), HS.out] at h1
    unfold soundR; rw [h1]; rfl
   have HBAD := jh hbad; clear hbad
   have hcase : x.first ≠ n ∨ (x.first = n ∧ x.last < n) ∨ (x.first = n ∧ ¬ x.last < n ∧ 4294967295 < x.last) ∨ (x.first = n ∧ ¬ x.last < n ∧ ¬ 4294967295 < x.last) := by omega
   rcases hcase with g | g | g | g
   ·have G := jh g
    have g1 : (x.first == n) = false := by rw [beq_eq_false_iff_ne]; exact g
    clear g
    go_wp2_with fail
    go_ret
    exact ⟨ret_bool (HBAD.out fun h => absurd h.1 G.out), hbl.tr (by repeat (with_reducible first | assumption | exact jb _ _ | refine Below.al ?_ _ | refine Below.drew ?_ | apply Below.st1))⟩
   ·have G := jh g
    obtain ⟨rfl, g2⟩ := g
    go_wp2_with fail
    go_ret
    exact ⟨ret_bool (HBAD.out fun h => by have := G.out.2; have := h.2.1; omega), hbl.tr (by repeat (with_reducible first | assumption | exact jb _ _ | refine Below.al ?_ _ | refine Below.drew ?_ | apply Below.st1))⟩
   ·have G := jh g
    obtain ⟨rfl, g2, g3⟩ := g
    have g2' : decide (x.last < x.first) = false := jd g2
    clear g2
    go_wp2_with fail
    go_ret
    exact ⟨ret_bool (HBAD.out fun h => by have := G.out.2; have := h.2.2; omega), hbl.tr (by repeat (with_reducible first | assumption | exact jb _ _ | refine Below.al ?_ _ | refine Below.drew ?_ | apply Below.st1))⟩
   ·have G := jh g
    obtain ⟨rfl, g2, g3⟩ := g
    have g2' : decide (x.last < x.first) = false := jd g2
    have g3' : decide (4294967295 < x.last) = false := jd g3
    clear g2 g3
    go_wp2_with fail
    refine (CO.out x _).mono ?_
    rintro e w1 ⟨rfl, hb1⟩
    have hb1' := hbx.tr hb1
    have C1 : w1.cell? ⟨wr.heap.size, 1, none⟩ = some (.int .i64 x.last) := ((Blk.new wr 27 [.int .i64 x.first, .int .i64 x.last, .int .i64 x.owner, .int .i64 x.epoch]).ext hb1).cell 1
    clear hb1
    cases hq : ownedB x
    ·have HQ := jh hq; clear hq
     go_wp2_with fail
     go_ret
     exact ⟨ret_bool (HBAD.out fun _ => HQ.out), hbl.tr hb1'⟩
    ·have HQ := jh hq; clear hq
     have hxw : Hid (wrap64 (x.last + 1) = x.last + 1) := jh (wrap_in _ (by have := G.out; omega))
     go_wp2_with fail
     go_round
     case rel =>
      refine ⟨k + 1, x.last + 1, by omega, by rw [hWK.out], by rw [hxw.out], by have := G.out; omega, ?_, hbl.tr hb1'⟩
      rw [← HS.out, HD.out, if_pos (by have := G.out; simp [HQ.out]; omega)]
     case measure => rw [hWK.out]; simp [intOf]; omega
  ·have hkn : k = l.length := by omega
   subst hkn
   have hs := HS.out
   rw [List.drop_length] at hs
   have hs' : some n = soundFrom l 0 := hs
   have HS' := jh hs'
   clear hs hs'
   by_cases hn1 : n = 4294967296
   ·subst hn1
    by_cases h64 : l.length ≤ 64
    ·have h64' : (l.length : Int) ≤ 64 := by omega
     have H64 := jh h64; clear h64
     go_wp2_with fail
     go_ret
     exact ⟨ret_bool (by unfold soundR; rw [← HS'.out]; simp [H64.out]), hbl⟩
    ·have h64' : decide ((l.length : Int) ≤ 64) = false := jd (by omega)
     have H64 := jh h64; clear h64
     go_wp2_with fail
     go_ret
     exact ⟨ret_bool (by unfold soundR; rw [← HS'.out]; simp; have := H64.out; omega), hbl⟩
   ·have H1 := jh hn1
    have g1 : (n == 4294967296) = false := by rw [beq_eq_false_iff_ne]; exact hn1
    clear hn1
    go_wp2_with fail
    go_ret
    exact ⟨ret_bool (by unfold soundR; rw [← HS'.out]; simp [H1.out]), hbl⟩
theorem atHas_any (h : Int) (b : Nat) (r : Range) (w : World) (hb : w.cell? ⟨b, 0, none⟩ = some (.int .i64 h)) : Calls Tryz.prog 302 #[r.val, .pointer (some ⟨b, 0, none⟩)] w fun e w' => e = .returned (.bool (r.has h)) ∧ Below w.heap.size w w' := by
 have hlt := lt_of_cell hb
 have hb' : (w.alloc (.cells #[.int .i64 r.first, .int .i64 r.last, .int .i64 r.owner, .int .i64 r.epoch] 27)).cell? ⟨b, 0, none⟩ = some (.int .i64 h) := (Below.cell ((jb _ w).al _) (p := ⟨b, 0, none⟩) hlt).trans hb
 unfold Range.val
 go_enter Tryz.func302, Tryz.ntmps302
 go_wp2
 all_goals
  go_ret
  refine ⟨ret_bool ?_, by repeat (with_reducible first | assumption | exact jb _ _ | refine Below.al ?_ _ | refine Below.drew ?_ | apply Below.st1)⟩
  go_light
  unfold Range.has
  rw [Bool.eq_iff_iff]
  simp at *
  omega
theorem enters_at : ∀ args w, (callFunc 302 args).run Tryz.prog w = .ok (.enter 302 args) w := enters_of Tryz.func302 (by kernel_rfl) rfl
theorem at_any (A : Option Addr) (c : Nat) (l : List Range) (h : Int) (P : Nat → Prop) (w : World) (hr : RangeR.Row w P A l) (hl : l.length ≤ 1000000) :
 Calls Tryz.prog 262 #[.slice A l.length c, .int .i64 h] w fun e w' => e = .returned (.int .i64 (atR l h)) ∧ Below w.heap.size w w' := by
 have hb0 := (jb w.heap.size w).al (.cells #[.int .i64 h] 3)
 have CS := soundR_any A c l P (w.alloc (.cells #[.int .i64 h] 3)) (hr.ext hb0) hl
 have B0 := Blk.new w 3 [.int .i64 h]
 have CI := jh fun (W : World) (hW : Below (w.alloc (.cells #[.int .i64 h] 3)).heap.size (w.alloc (.cells #[.int .i64 h] 3)) W) => idxF_Range 302 [.pointer (some ⟨w.heap.size, 0, none⟩)] (fun r => r.has h) enters_at A c l P W (hr.ext (hb0.tr hW)) (by omega) (fun a cs W' _ ha hb' => by
  obtain ⟨rfl, _⟩ := range_rep.1 ha
  exact atHas_any h w.heap.size a W' (((B0.ext hW).ext hb').cell 0))
 clear hr
 go_enter Tryz.func262, Tryz.ntmps262
 go_wp2_with fail
 refine CS.mono ?_
 clear CS
 rintro e w1 ⟨rfl, hb1⟩
 cases hq : soundR l
 ·have HQ := jh hq; clear hq
  go_wp2_with fail
  go_ret
  exact ⟨by unfold atR; rw [HQ.out]; rfl, hb0.tr hb1⟩
 ·have HQ := jh hq; clear hq
  have C := CI.out w1 hb1
  clear CI
  go_wp2_with fail
  refine C.mono ?_
  clear C
  rintro e w2 ⟨rfl, hb2⟩
  go_wp2_with fail
  go_ret
  exact ⟨by unfold atR; rw [HQ.out]; rfl, (hb0.tr hb1).tr hb2⟩
theorem atR_bd (l : List Range) (h : Int) : -1 ≤ atR l h ∧ atR l h < l.length := by
 unfold atR
 split
 ·exact idxI_bd _ _
 ·omega
def Found (r : Range) (b : Bool) : Value := .tuple #[.agg #[.int .i64 r.first, .int .i64 r.last, .int .i64 r.owner, .int .i64 r.epoch], .bool b]
theorem find_any (A : Option Addr) (c : Nat) (l : List Range) (h : Int) (P : Nat → Prop) (w : World) (hr : RangeR.Row w P A l) (hl : l.length ≤ 1000000) :
 Calls Tryz.prog 180 #[.slice A l.length c, .int .i64 h] w fun e w' => e = .returned (Found (findR l h).1 (findR l h).2) ∧ Below w.heap.size w w' := by
 have hb0 := (jb w.heap.size w).al (.cells #[.int .i64 0, .int .i64 0, .int .i64 0, .int .i64 0] 27)
 have CS := at_any A c l h P (w.alloc (.cells #[.int .i64 0, .int .i64 0, .int .i64 0, .int .i64 0] 27)) (hr.ext hb0) hl
 have B0 := Blk.new w 27 [.int .i64 0, .int .i64 0, .int .i64 0, .int .i64 0]
 have hbd := atR_bd l h
 have HR := jh (hr.mono (Q := fun g => g < w.heap.size) fun g _ h => h); clear hr
 have HF := jh (show findR l h = if atR l h < 0 then (zeroRange, false) else (l.getD (atR l h).toNat zeroRange, true) from rfl)
 generalize atR l h = i at *
 go_enter Tryz.func180, Tryz.ntmps180
 go_wp2_with fail
 refine CS.mono ?_
 clear CS
 rintro e w1 ⟨rfl, hb1⟩
 have B1 := B0.ext hb1
 have hw1 := hb0.tr hb1
 have hz1 := hb1.size
 simp only [World.size_alloc] at hz1
 clear B0 hb0 hb1
 have HB := jh B1
 have f0 := B1.frozen 0
 have f1 := B1.frozen 1
 have f2 := B1.frozen 2
 have f3 := B1.frozen 3
 have b0 := B1.cell 0
 have b1 := B1.cell 1
 have b2 := B1.cell 2
 have b3 := B1.cell 3
 simp only [List.getElem?_cons_zero, List.getElem?_cons_succ] at b0 b1 b2 b3
 clear B1
 by_cases hi : i < 0
 ·have HI := jh hi
  go_wp2_with fail
  rw [show findR l h = (zeroRange, false) from by rw [HF.out, if_pos HI.out]]
  exact bodyPost_ret (results_blk_tmp rfl _ ((((HB.out.set_ 0 (.int .i64 0)).set_ 1 (.int .i64 0)).set_ 2 (.int .i64 0)).set_ 3 (.int .i64 0)) rfl Tryz.underlying27 rfl (by kernel_rfl)) rfl ⟨rfl, (((hw1.st (Nat.le_refl _) _).st (Nat.le_refl _) _).st (Nat.le_refl _) _).st (Nat.le_refl _) _⟩
 ·have HI := jh hi
  have hi' : decide (i < 0) = false := jd hi
  obtain ⟨k, rfl⟩ : ∃ k : Nat, i = k := ⟨i.toNat, by omega⟩
  have hkl : k < l.length := by omega
  have hlk := jg hkl
  have hgd : l.getD k zeroRange = l[k] := by simp [hkl]
  generalize l[k] = x at hlk hgd
  obtain ⟨b, o, cs, rfl, hP, hbw, hrep, hcs⟩ := (HR.out.ext hw1).at_ hlk
  obtain ⟨rfl, hf⟩ := range_rep.1 hrep
  have c0 := hcs 0 _ rfl; have c1 := hcs 1 _ rfl; have c2 := hcs 2 _ rfl; have c3 := hcs 3 _ rfl; simp only [RangeR_size, Nat.add_zero] at c0 c1 c2 c3
  have HGD := jh hgd
  clear hgd hlk hrep hcs hi
  have hkl' : (k : Int) < l.length := by omega
  have hne : b ≠ w.heap.size := by omega
  go_wp2_with fail
  rw [show findR l h = (x, true) from by rw [HF.out, if_neg (by omega), ← HGD.out]; rfl]
  exact bodyPost_ret (results_blk_tmp rfl _ ((((HB.out.set_ 0 (.int .i64 x.first)).set_ 1 (.int .i64 x.last)).set_ 2 (.int .i64 x.owner)).set_ 3 (.int .i64 x.epoch)) rfl Tryz.underlying27 rfl (by kernel_rfl)) rfl ⟨rfl, (((hw1.st (Nat.le_refl _) _).st (Nat.le_refl _) _).st (Nat.le_refl _) _).st (Nat.le_refl _) _⟩
theorem of_any (A : Option Addr) (c : Nat) (l : List Range) (s : Str) (P : Nat → Prop) (w : World) (hr : RangeR.Row w P A l) (hl : l.length ≤ 1000000) (hs : sfit s) :
 Calls Tryz.prog 209 #[.slice A l.length c, .string s] w fun e w' => e = .returned (Found (ofR l s).1 (ofR l s).2) ∧ Below w.heap.size w w' := by
 have hb0 := (jb w.heap.size w).al (.cells #[.int .i64 0, .int .i64 0, .int .i64 0, .int .i64 0] 27)
 have CH := fun W => hash_any s W hs
 have CS := jh fun (W : World) (hW : Below w.heap.size w W) => find_any A c l (hashS s) P W (hr.ext hW) hl
 have B0 := Blk.new w 27 [.int .i64 0, .int .i64 0, .int .i64 0, .int .i64 0]
 have hbd := hash_bd s.data.toList
 change 0 ≤ hashS s ∧ hashS s < 4294967296 at hbd
 have HF := jh (show ofR l s = findR l (hashS s) from rfl)
 clear hr hs
 unfold Found at CS
 rw [HF.out]
 clear HF
 go_enter Tryz.func209, Tryz.ntmps209
 go_wp2_with fail
 refine (CH _).mono ?_
 rintro e w' ⟨rfl, rfl⟩
 clear CH
 obtain ⟨h0, h1⟩ := hbd
 go_wp2_with fail
 refine (CS.out _ hb0).mono ?_
 clear CS
 rintro e w1 ⟨rfl, hb1⟩
 have B1 := B0.ext hb1
 have hw1 := hb0.tr hb1
 have hz1 := hb1.size
 simp only [World.size_alloc] at hz1
 clear B0 hb0 hb1
 have HB := jh B1
 have f0 := B1.frozen 0
 have f1 := B1.frozen 1
 have f2 := B1.frozen 2
 have f3 := B1.frozen 3
 have b0 := B1.cell 0
 have b1 := B1.cell 1
 have b2 := B1.cell 2
 have b3 := B1.cell 3
 simp only [List.getElem?_cons_zero, List.getElem?_cons_succ] at b0 b1 b2 b3
 clear B1
 generalize hq : findR l (hashS s) = q
 have HQ := jh hq
 clear hq
 obtain ⟨x, g⟩ := q
 go_wp2_with fail
 rw [HQ.out]
 exact bodyPost_ret (results_blk_tmp rfl _ ((((HB.out.set_ 0 (.int .i64 x.first)).set_ 1 (.int .i64 x.last)).set_ 2 (.int .i64 x.owner)).set_ 3 (.int .i64 x.epoch)) rfl Tryz.underlying27 rfl (by kernel_rfl)) rfl ⟨rfl, (((hw1.st (Nat.le_refl _) _).st (Nat.le_refl _) _).st (Nat.le_refl _) _).st (Nat.le_refl _) _⟩
end Go.Proofs.YtcmjgghkmdbphaaGreatDoor
namespace Go.Proofs.YtcmjgghkmdbphaaGreatDoor
open Go.RowKit
section
variable {κ β γ : Type} [DecidableEq κ]
theorem assocOf_eq (k : κ) (l : List (κ × Value)) : assocOf k l = getA k l := by
 induction l with
 | nil => rfl
 | cons p l ih => simp only [assocOf, getA, ih]
theorem assocPut_eq (k : κ) (v : Value) (l : List (κ × Value)) : assocPut k v l = putA k v l := by
 induction l with
 | nil => rfl
 | cons p l ih => simp only [assocPut, putA, ih]
theorem assocDel_eq (k : κ) (l : List (κ × Value)) : assocDel k l = delA k l := by
 induction l with
 | nil => rfl
 | cons p l ih => simp only [assocDel, delA, ih]
theorem getA_map (f : β → γ) (k : κ) (l : List (κ × β)) : getA k (l.map fun p => (p.1, f p.2)) = (getA k l).map f := by
 induction l with
 | nil => rfl
 | cons p l ih => simp only [List.map_cons, getA, ih]; split <;> rfl
theorem putA_map (f : β → γ) (k : κ) (v : β) (l : List (κ × β)) : putA k (f v) (l.map fun p => (p.1, f p.2)) = (putA k v l).map fun p => (p.1, f p.2) := by
 induction l with
 | nil => rfl
 | cons p l ih => simp only [List.map_cons, putA, ih]; split <;> rfl
theorem delA_map (f : β → γ) (k : κ) (l : List (κ × β)) : delA k (l.map fun p => (p.1, f p.2)) = (delA k l).map fun p => (p.1, f p.2) := by
 induction l with
 | nil => rfl
 | cons p l ih => simp only [List.map_cons, delA, ih]; split <;> rfl
theorem getA_mem {k : κ} {v : β} {l : List (κ × β)} (h : getA k l = some v) : (k, v) ∈ l := by
 induction l with
 | nil => cases h
 | cons p l ih =>
   simp only [getA] at h
   split at h
   ·rename_i e; cases h; subst e; simp
   ·exact List.mem_cons_of_mem _ (ih h)
theorem getA_none {k : κ} {l : List (κ × β)} : getA k l = none ↔ k ∉ l.map (·.1) := by
 induction l with
 | nil => simp [getA]
 | cons p l ih =>
   simp only [getA, List.map_cons, List.mem_cons, not_or]
   split
   ·rename_i e; simp [e]
   ·rename_i e; simp [e, ih]
theorem getA_of_mem {k : κ} {v : β} {l : List (κ × β)} (hn : (l.map (·.1)).Nodup) (h : (k, v) ∈ l) : getA k l = some v := by
 induction l with
 | nil => cases h
 | cons p l ih =>
   simp only [List.map_cons, List.nodup_cons] at hn
   simp only [getA]
   rcases List.mem_cons.1 h with e | h
   ·subst e; simp
   ·have : k ≠ p.1 := fun e => hn.1 (e ▸ List.mem_map.2 ⟨_, h, rfl⟩)
    rw [if_neg this]; exact ih hn.2 h
theorem getA_put (k x : κ) (v : β) (l : List (κ × β)) : getA x (putA k v l) = if x = k then some v else getA x l := by
 induction l with
 | nil => simp only [putA, getA]
 | cons p l ih =>
   simp only [putA]
   by_cases h : k = p.1
   ·rw [if_pos h]
    simp only [getA]
    by_cases hx : x = k
    ·rw [if_pos (hx.trans h), if_pos hx]
    ·rw [if_neg (fun e => hx (e.trans h.symm)), if_neg hx, if_neg (fun e => hx (e.trans h.symm))]
   ·rw [if_neg h]
    simp only [getA]
    by_cases hx : x = p.1
    ·rw [if_pos hx, if_pos hx, if_neg (fun e => h (e.symm.trans hx))]
    ·rw [if_neg hx, if_neg hx, ih]
theorem putA_mem {k : κ} {v : β} {l : List (κ × β)} {p : κ × β} (h : p ∈ putA k v l) : p = (k, v) ∨ (p ∈ l ∧ p.1 ≠ k) ∨ p ∈ l := by
 induction l with
 | nil => simp [putA] at h; exact .inl h
 | cons q l ih =>
   simp only [putA] at h
   split at h
   ·rename_i e
    rcases List.mem_cons.1 h with h | h
    ·left; rw [h, e]
    ·exact .inr (.inr (List.mem_cons_of_mem _ h))
   ·rename_i e
    rcases List.mem_cons.1 h with h | h
    ·subst h; exact .inr (.inr (by simp))
    ·rcases ih h with h | h | h
     ·exact .inl h
     ·exact .inr (.inr (List.mem_cons_of_mem _ h.1))
     ·exact .inr (.inr (List.mem_cons_of_mem _ h))
theorem putA_fst (k : κ) (v : β) (l : List (κ × β)) : (putA k v l).map (·.1) = if k ∈ l.map (·.1) then l.map (·.1) else l.map (·.1) ++ [k] := by
 induction l with
 | nil => simp [putA]
 | cons q l ih =>
   simp only [putA]
   by_cases h : k = q.1
   ·rw [if_pos h]; simp [h]
   ·rw [if_neg h, List.map_cons, ih]
    by_cases hk : k ∈ l.map (·.1)
    ·simp only [if_pos hk, List.map_cons, List.mem_cons, h, false_or]
    ·simp only [if_neg hk, List.map_cons, List.mem_cons, h, false_or, List.cons_append]
theorem putA_nodup {k : κ} {v : β} {l : List (κ × β)} (h : (l.map (·.1)).Nodup) : ((putA k v l).map (·.1)).Nodup := by
 rw [putA_fst]
 split
 ·exact h
 ·rename_i hk
  rw [List.nodup_append]
  refine ⟨h, by simp, ?_⟩
  rintro a ha b hb rfl
  simp at hb; subst hb; exact hk ha
theorem delA_sub (k : κ) (l : List (κ × β)) : (delA k l).Sublist l := by
 induction l with
 | nil => exact List.Sublist.slnil
 | cons q l ih =>
   simp only [delA]
   split
   ·exact List.sublist_cons_self _ _
   ·exact ih.cons_cons _
theorem delA_nodup {k : κ} {l : List (κ × β)} (h : (l.map (·.1)).Nodup) : ((delA k l).map (·.1)).Nodup := h.sublist ((delA_sub k l).map _)
theorem getA_del {k x : κ} {l : List (κ × β)} (h : (l.map (·.1)).Nodup) : getA x (delA k l) = if x = k then none else getA x l := by
 induction l with
 | nil => simp [delA, getA]
 | cons q l ih =>
   simp only [List.map_cons, List.nodup_cons] at h
   simp only [delA]
   by_cases hk : k = q.1
   ·rw [if_pos hk]
    by_cases hx : x = k
    ·rw [if_pos hx]; exact getA_none.2 (by rw [hx, hk]; exact h.1)
    ·rw [if_neg hx]; simp only [getA]; rw [if_neg (fun e => hx (e.trans hk.symm))]
   ·rw [if_neg hk]
    simp only [getA]
    by_cases hx : x = q.1
    ·rw [if_pos hx, if_pos hx, if_neg (fun e => hk (e.symm.trans hx))]
    ·rw [if_neg hx, if_neg hx, ih h.2]
end
def Rep.Plain {α : Type} (R : Rep α) : Prop := ∀ (w w' : World) (P Q : Nat → Prop) (cs : List Value) (a : α), R.rep w P cs a → R.rep w' Q cs a
theorem event_plain : EventR.Plain := fun _ _ _ _ _ _ h => event_rep.2 (event_rep.1 h)
theorem known_plain : KnownR.Plain := fun _ _ _ _ _ _ h => known_rep.2 (known_rep.1 h)
theorem range_plain : RangeR.Plain := fun _ _ _ _ _ _ h => range_rep.2 (range_rep.1 h)
section
variable {α : Type} {R : Rep α} {w w' : World} {base e : Nat} {S : Nat → Prop} {v : Value} {l : List α}
theorem Rep.flat.plain (hp : R.Plain) {xs : List Value} {P Q : Nat → Prop} (h : R.flat w P xs l) : R.flat w' Q xs l := by
 obtain ⟨c, e, n, f⟩ := h
 exact ⟨c, e, n, fun i cs a h1 h2 => hp _ _ _ _ _ _ (f i cs a h1 h2)⟩
theorem Rep.Own.plain (hp : R.Plain) {S' : Nat → Prop} (h : R.Own w base e S v l) : R.Own w base e S' v l := by
 obtain ⟨xs, h1, h2⟩ := h
 exact ⟨xs, h1, h2.plain hp⟩
theorem Rep.Own.zero (h : R.Own w base e S v l) : R.Own w 0 e S v l := by
 obtain ⟨xs, h1, h2⟩ := h
 exact ⟨xs, h1.base_ fun _ _ => Nat.zero_le _, h2⟩
theorem Rep.Own.same' (hp : R.Plain) {P : Nat → Prop} (h : R.Own w base e S v l) (hs : Same P w w') (hb : ∀ g, v.ownBlock = some g → P g) : R.Own w' base e S v l := by
 obtain ⟨xs, k1, k2⟩ := h
 refine ⟨xs, ⟨k1.1, ?_⟩, k2.plain hp⟩
 rcases k1.2 with hn | ⟨g, cap, cur, hv, hbg, hg, rest⟩
 ·exact .inl hn
 ·exact .inr ⟨g, cap, cur, hv, hbg, (hs g (hb g (by rw [hv]; rfl)) (Array.getElem?_eq_some_iff.1 hg).1).trans hg, rest⟩
theorem Rep.Own.row' (hp : R.Plain) {A : Option Addr} {n c : Nat} {P : Nat → Prop} (h : R.Own w base e S (.slice A n c) l) (hP : ∀ g, (Value.slice A n c).ownBlock = some g → P g) : R.Row w P A l := fun hl => by
 have h' : R.Own w base e (fun _ => True) (.slice A n c) l := h.plain hp
 obtain ⟨b, o, rfl, _, hb, hc⟩ := h'.row (fun _ _ => trivial) hl
 refine ⟨b, o, rfl, hP b rfl, hb, fun i a hi => ?_⟩
 obtain ⟨cs, hr, hcs⟩ := hc i a hi
 exact ⟨cs, hp _ _ _ _ _ _ hr, hcs⟩
end
end Go.Proofs.YtcmjgghkmdbphaaGreatDoor
namespace Go.Proofs.YtcmjgghkmdbphaaGreatDoor
open Go.RowKit
theorem sort_perm (l : List Str) : (sortS l).Perm l := List.mergeSort_perm _ _
theorem mem_sort {l : List Str} {x : Str} : x ∈ sortS l ↔ x ∈ l := (sort_perm l).mem_iff
theorem sort_nodup {l : List Str} (h : l.Nodup) : (sortS l).Nodup := (sort_perm l).nodup_iff.2 h
theorem perm_of_mem {α : Type} [DecidableEq α] {l m : List α} (hl : l.Nodup) (hm : m.Nodup) (h : ∀ x, x ∈ l ↔ x ∈ m) : l.Perm m := by
 rw [List.perm_iff_count]
 intro a
 rw [hl.count, hm.count]
 simp only [h a]
theorem goesFrom_iff (l : List Event) (v i : Int) : goesFrom l v i = true ↔ ∀ (j : Nat) (e : Event), l[j]? = some e → e.version = v + 1 + (i + j) := by
 induction l generalizing i with
 | nil => simp [goesFrom]
 | cons e l ih =>
   unfold goesFrom
   rw [Bool.and_eq_true, decide_eq_true_eq, ih]
   constructor
   ·rintro ⟨h1, h2⟩ j x hx
    cases j with
    | zero => simp at hx; subst hx; omega
    | succ j => have := h2 j x (by simpa using hx); omega
   ·intro h
    refine ⟨by have := h 0 e rfl; simpa using this, fun j x hx => ?_⟩
    have := h (j + 1) x (by simpa using hx)
    omega
theorem goes_iff (l : List Event) (v : Int) : goesB l v = true ↔ ∀ (j : Nat) (e : Event), l[j]? = some e → e.version = v + 1 + j := by
 unfold goesB; rw [goesFrom_iff]
 constructor <;> intro h j e he <;> have := h j e he <;> omega
def keyFit (ev : List Event) (k : Known) : Prop := k.first ≤ ev.length ∧ (ev.map Event.stamp).getD (k.first - 1).toNat zeroStamp = k.stamp
theorem metK_zero {l : List Known} {k : Str} : metK l k = 0 ↔ ∀ x ∈ l, x.key ≠ k := by
 unfold metK
 rw [List.length_eq_zero_iff, List.filter_eq_nil_iff]
 simp
theorem keysB_iff (ev : List Event) (l r : List Known) : keysB ev l r = true ↔ (∀ k ∈ r, keyFit ev k) ∧ (r.map Known.key).Nodup ∧ ∀ k ∈ r, ∀ x ∈ l, x.key ≠ k.key := by
 induction r generalizing l with
 | nil => simp [keysB]
 | cons k r ih =>
   unfold keysB
   simp only [Bool.and_eq_true, decide_eq_true_eq, ih, metK_zero, List.mem_cons, List.map_cons, List.nodup_cons, List.mem_append, List.mem_map, not_exists, not_and]
   constructor
   ·rintro ⟨h1, h2, h3, h4, h5, h6⟩
    refine ⟨?_, ⟨?_, h5⟩, ?_⟩
    ·rintro x (rfl | hx)
     ·exact ⟨h2, h3⟩
     ·exact h4 x hx
    ·intro x hx e
     exact h6 x hx k (.inr (.inl rfl)) e.symm
    ·rintro x (rfl | hx) y hy
     ·exact h1 y hy
     ·exact h6 x hx y (.inl hy)
   ·rintro ⟨h1, ⟨h2, h3⟩, h4⟩
    refine ⟨h4 k (.inl rfl), (h1 k (.inl rfl)).1, (h1 k (.inl rfl)).2, fun x hx => h1 x (.inr hx), h3, ?_⟩
    rintro x hx y (hy | rfl | hy)
    ·exact h4 x (.inr hx) y hy
    ·exact fun e => h2 x hx e.symm
    ·cases hy
structure TS.Ok (n : Str) (s : TS) : Prop where
 name : nameB n = true
 full : s.events ≠ []
 evs : ∀ e ∈ s.events, okE n e = true
 goes : ∀ (j : Nat) (e : Event), s.events[j]? = some e → e.version = j + 1
 keys : ∀ p ∈ s.keys, p.2.key = p.1 ∧ knownB p.2 = true ∧ keyFit s.events p.2
 nd : (s.keys.map (·.1)).Nodup
structure Tab.Ok (T : Tab) : Prop where
 nd : (T.map (·.1)).Nodup
 each : ∀ p ∈ T, p.2.Ok p.1
theorem getD_of {α : Type} {o : Option α} {a d : α} (h : o = some a) : o.getD d = a := by rw [h]; rfl
theorem mem_keys {s : TS} {n : Str} (h : s.Ok n) {k : Known} : k ∈ (streamOf n s).keys ↔ (k.key, k) ∈ s.keys := by
 unfold streamOf
 simp only [List.mem_map, mem_sort]
 constructor
 ·rintro ⟨x, ⟨p, hp, rfl⟩, rfl⟩
  rw [getD_of (getA_of_mem h.nd (show (p.1, p.2) ∈ s.keys from hp))]
  rw [(h.keys p hp).1]; exact hp
 ·intro hk
  exact ⟨k.key, ⟨_, hk, rfl⟩, getD_of (getA_of_mem h.nd hk)⟩
theorem keys_fst {s : TS} {n : Str} (h : s.Ok n) : (streamOf n s).keys.map Known.key = sortS (s.keys.map (·.1)) := by
 unfold streamOf
 simp only [List.map_map]
 conv => rhs; rw [← List.map_id (sortS (s.keys.map (·.1)))]
 apply List.map_congr_left
 intro x hx
 rw [mem_sort] at hx
 obtain ⟨p, hp, rfl⟩ := List.mem_map.1 hx
 simp only [Function.comp, id]
 rw [getD_of (getA_of_mem h.nd (show (p.1, p.2) ∈ s.keys from hp))]
 exact (h.keys p hp).1
theorem TS.Ok.whole {s : TS} {n : Str} (h : s.Ok n) : wholeB (streamOf n s) = true := by
 unfold wholeB streamB
 simp only [Bool.and_eq_true, decide_eq_true_eq, List.all_eq_true]
 refine ⟨⟨h.name, h.evs, fun k hk => (h.keys _ ((mem_keys h).1 hk)).2.1⟩, h.full, ?_, ?_⟩
 ·rw [goes_iff]; intro j e he; have := h.goes j e he; omega
 ·rw [keysB_iff]
  refine ⟨fun k hk => (h.keys _ ((mem_keys h).1 hk)).2.2, ?_, fun _ _ x hx => by cases hx⟩
  rw [keys_fst h]; exact sort_nodup h.nd
theorem foldl_putA_out {α κ β : Type} [DecidableEq κ] (f : α → κ) (v : α → β) (l : List α) (m : List (κ × β)) {x : κ} (h : x ∉ l.map f) : getA x (l.foldl (fun m a => putA (f a) (v a) m) m) = getA x m := by
 induction l generalizing m with
 | nil => rfl
 | cons a l ih =>
   simp only [List.map_cons, List.mem_cons, not_or] at h
   rw [List.foldl_cons, ih _ h.2, getA_put, if_neg h.1]
theorem foldl_putA_in {α κ β : Type} [DecidableEq κ] (f : α → κ) (v : α → β) (l : List α) (m : List (κ × β)) (hn : (l.map f).Nodup) {a : α} (h : a ∈ l) : getA (f a) (l.foldl (fun m a => putA (f a) (v a) m) m) = some (v a) := by
 induction l generalizing m with
 | nil => cases h
 | cons b l ih =>
   simp only [List.map_cons, List.nodup_cons] at hn
   rw [List.foldl_cons]
   rcases List.mem_cons.1 h with rfl | h
   ·rw [foldl_putA_out f v l _ hn.1, getA_put, if_pos rfl]
   ·exact ih _ hn.2 h
theorem foldl_putA_nd {α κ β : Type} [DecidableEq κ] (f : α → κ) (v : α → β) (l : List α) (m : List (κ × β)) (hn : (m.map (·.1)).Nodup) : ((l.foldl (fun m a => putA (f a) (v a) m) m).map (·.1)).Nodup := by
 induction l generalizing m with
 | nil => exact hn
 | cons a l ih => rw [List.foldl_cons]; exact ih _ (putA_nodup hn)
theorem foldl_putA_mem {α κ β : Type} [DecidableEq κ] (f : α → κ) (v : α → β) (l : List α) (m : List (κ × β)) {p : κ × β} (h : p ∈ l.foldl (fun m a => putA (f a) (v a) m) m) : p ∈ m ∨ ∃ a ∈ l, p = (f a, v a) := by
 induction l generalizing m with
 | nil => exact .inl h
 | cons a l ih =>
   rw [List.foldl_cons] at h
   rcases ih _ h with h | ⟨b, hb, e⟩
   ·rcases putA_mem h with h | h | h
    ·exact .inr ⟨a, by simp, h⟩
    ·exact .inl h.1
    ·exact .inl h
   ·exact .inr ⟨b, by simp [hb], e⟩
def tsOf (s : Stream) : TS := ⟨s.events, keysOf s.keys⟩
theorem tsOf_ok {s : Stream} (h : wholeB s = true) : (tsOf s).Ok s.name := by
 unfold wholeB streamB at h
 simp only [Bool.and_eq_true, decide_eq_true_eq, List.all_eq_true, goes_iff, keysB_iff] at h
 obtain ⟨⟨h1, h2, h3⟩, h4, h5, h6, h7, _⟩ := h
 refine ⟨h1, h4, h2, fun j e he => by have := h5 j e he; omega, fun p hp => ?_, foldl_putA_nd _ _ _ _ (by simp)⟩
 rcases foldl_putA_mem Known.key (fun k => k) s.keys [] hp with hp | ⟨k, hk, rfl⟩
 ·cases hp
 ·exact ⟨rfl, h3 k hk, h6 k hk⟩
theorem getA_keysOf {l : List Known} (hn : (l.map Known.key).Nodup) {k : Known} (h : k ∈ l) : getA k.key (keysOf l) = some k := foldl_putA_in Known.key (fun k => k) l [] hn h
theorem getA_keysOf_none {l : List Known} {x : Str} (h : x ∉ l.map Known.key) : getA x (keysOf l) = none := foldl_putA_out Known.key (fun k => k) l [] h
def TS.Like (s s' : TS) : Prop := s.events = s'.events ∧ ∀ k, getA k s.keys = getA k s'.keys
def OptLike : Option TS → Option TS → Prop
 | none, none => True
 | some s, some s' => s.Like s'
 | _, _ => False
def Tab.Like (T T' : Tab) : Prop := ∀ n, OptLike (getA n T) (getA n T')
theorem streamOf_like {n : Str} {s : TS} (h : s.Ok n) : (tsOf (streamOf n s)).Like s := by
 refine ⟨rfl, fun k => ?_⟩
 show getA k (keysOf (streamOf n s).keys) = _
 by_cases hk : k ∈ (streamOf n s).keys.map Known.key
 ·obtain ⟨x, hx, rfl⟩ := List.mem_map.1 hk
  rw [getA_keysOf (by rw [keys_fst h]; exact sort_nodup h.nd) hx, getA_of_mem h.nd ((mem_keys h).1 hx)]
 ·rw [getA_keysOf_none hk]
  rw [keys_fst h, mem_sort] at hk
  exact (getA_none.2 hk).symm
theorem TS.Like.version {T T' : Tab} (h : T.Like T') (n : Str) : versionT T n = versionT T' n := by
 have := h n
 unfold versionT
 cases h1 : getA n T <;> cases h2 : getA n T' <;> rw [h1, h2] at this
 ·exact this.elim
 ·exact this.elim
 ·exact congrArg (fun l : List Event => (l.length : Int)) this.1
theorem TS.Like.known {T T' : Tab} (h : T.Like T') (n k : Str) : knownT T n k = knownT T' n k := by
 have := h n
 unfold knownT
 cases h1 : getA n T <;> cases h2 : getA n T' <;> rw [h1, h2] at this
 ·exact this.elim
 ·exact this.elim
 ·simp only [this.2 k]
theorem like_mem {T T' : Tab} (h : T.Like T') (x : Str) : x ∈ T.map (·.1) ↔ x ∈ T'.map (·.1) := by
 have := h x
 cases h1 : getA x T <;> cases h2 : getA x T' <;> rw [h1, h2] at this
 ·rw [getA_none] at h1 h2; simp [h1, h2]
 ·exact this.elim
 ·exact this.elim
 ·exact ⟨fun _ => List.mem_map.2 ⟨_, getA_mem h2, rfl⟩, fun _ => List.mem_map.2 ⟨_, getA_mem h1, rfl⟩⟩
theorem metS_zero {l : List Stream} {n : Str} : metS l n = 0 ↔ ∀ x ∈ l, x.name ≠ n := by
 unfold metS
 rw [List.length_eq_zero_iff, List.filter_eq_nil_iff]
 simp
theorem okPut_iff (l r : List Stream) : okPut l r = true ↔ (∀ s ∈ r, wholeB s = true) ∧ (r.map Stream.name).Nodup ∧ ∀ s ∈ r, ∀ x ∈ l, x.name ≠ s.name := by
 induction r generalizing l with
 | nil => simp [okPut]
 | cons k r ih =>
   unfold okPut
   simp only [Bool.and_eq_true, decide_eq_true_eq, ih, metS_zero, List.mem_cons, List.map_cons, List.nodup_cons, List.mem_append, List.mem_map, not_exists, not_and]
   constructor
   ·rintro ⟨h1, h2, h4, h5, h6⟩
    refine ⟨?_, ⟨?_, h5⟩, ?_⟩
    ·rintro x (rfl | hx)
     ·exact h2
     ·exact h4 x hx
    ·intro x hx e
     exact h6 x hx k (.inr (.inl rfl)) e.symm
    ·rintro x (rfl | hx) y hy
     ·exact h1 y hy
     ·exact h6 x hx y (.inl hy)
   ·rintro ⟨h1, ⟨h2, h3⟩, h4⟩
    refine ⟨h4 k (.inl rfl), h1 k (.inl rfl), fun x hx => h1 x (.inr hx), h3, ?_⟩
    rintro x hx y (hy | rfl | hy)
    ·exact h4 x (.inr hx) y hy
    ·exact fun e => h2 x hx e.symm
    ·cases hy
theorem putAll_out {l : List Stream} {T : Tab} {x : Str} (h : x ∉ l.map Stream.name) : getA x (putAll l T) = getA x T := foldl_putA_out Stream.name (fun s => tsOf s) l T h
theorem putAll_in {l : List Stream} {T : Tab} (hn : (l.map Stream.name).Nodup) {s : Stream} (h : s ∈ l) : getA s.name (putAll l T) = some (tsOf s) := foldl_putA_in Stream.name (fun s => tsOf s) l T hn h
theorem putAll_ok {l : List Stream} {T : Tab} (hT : T.Ok) (h : ∀ s ∈ l, wholeB s = true) : (putAll l T).Ok := by
 refine ⟨foldl_putA_nd Stream.name (fun s => tsOf s) l T hT.nd, fun p hp => ?_⟩
 rcases foldl_putA_mem Stream.name (fun s => tsOf s) l T hp with hp | ⟨s, hs, rfl⟩
 ·exact hT.each p hp
 ·exact tsOf_ok (h s hs)
theorem Tab.Ok.nil_ : Tab.Ok [] := ⟨by simp, fun p hp => by cases hp⟩
theorem mem_take {T : Tab} (hT : T.Ok) {r : Range} {s : Stream} : s ∈ takeT T r ↔ ∃ t, getA s.name T = some t ∧ s = streamOf s.name t ∧ inR r s.name = true := by
 unfold takeT someT
 simp only [List.mem_map, List.mem_filter, mem_sort]
 constructor
 ·rintro ⟨n, ⟨⟨p, hp, rfl⟩, hr⟩, rfl⟩
  have hg := getA_of_mem hT.nd (show (p.1, p.2) ∈ T from hp)
  rw [getD_of hg]
  exact ⟨p.2, hg, rfl, hr⟩
 ·rintro ⟨t, ht, hs, hr⟩
  refine ⟨s.name, ⟨⟨_, getA_mem ht, rfl⟩, hr⟩, ?_⟩
  rw [getD_of ht]; exact hs.symm
theorem take_names (T : Tab) (r : Range) : (takeT T r).map Stream.name = someT T r := by
 unfold takeT
 rw [List.map_map]
 conv => rhs; rw [← List.map_id (someT T r)]
 exact List.map_congr_left fun x _ => rfl
theorem some_nodup {T : Tab} (hT : T.Ok) (r : Range) : (someT T r).Nodup := (sort_nodup hT.nd).sublist List.filter_sublist
theorem take_whole {T : Tab} (hT : T.Ok) (r : Range) : ∀ s ∈ takeT T r, wholeB s = true := by
 intro s hs
 obtain ⟨t, ht, he, _⟩ := (mem_take hT).1 hs
 rw [he]
 exact (hT.each _ (getA_mem ht)).whole
theorem take_okPut {T : Tab} (hT : T.Ok) (r : Range) : okPut [] (takeT T r) = true :=
 (okPut_iff _ _).2 ⟨take_whole hT r, by rw [take_names]; exact some_nodup hT r, fun _ _ x hx => by cases hx⟩
theorem hash_all (h : ∀ n, 0 ≤ hashS n ∧ hashS n < 4294967296) (n : Str) : inR allHashes n = true := by
 unfold inR Range.has allHashes
 have := h n
 simp; omega
theorem fresh_like (hh : ∀ n, 0 ≤ hashS n ∧ hashS n < 4294967296) {T : Tab} (hT : T.Ok) : (freshT T).Like T ∧ (freshT T).Ok := by
 unfold freshT putT
 rw [if_pos (take_okPut hT _)]
 refine ⟨fun n => ?_, putAll_ok Tab.Ok.nil_ (take_whole hT _)⟩
 cases h : getA n T with
 | none =>
   rw [putAll_out]
   ·exact trivial
   ·rw [take_names]
    unfold someT
    rw [List.mem_filter, mem_sort]
    exact fun hx => getA_none.1 h hx.1
 | some s =>
   have hm : streamOf n s ∈ takeT T allHashes := (mem_take hT).2 ⟨s, h, rfl, hash_all hh n⟩
   have := putAll_in (T := []) (by rw [take_names]; exact some_nodup hT _) hm
   rw [show getA n (putAll (takeT T allHashes) []) = _ from this]
   exact streamOf_like (hT.each _ (getA_mem h))
end Go.Proofs.YtcmjgghkmdbphaaGreatDoor
namespace Go.Proofs.YtcmjgghkmdbphaaGreatDoor
open Go.RowKit
abbrev strE : Str → Value := fun s => .string s
def txE (t : Tx) : Value := .agg #[.int .i64 t.node, .int .i64 t.life, .int .i64 t.num]
def ptrV (b : Nat) : Value := .pointer (some ⟨b, 0, none⟩)
structure SB where
 b : Nat
 ev : Value
 km : Nat
structure SB.In (P : Nat → Prop) (s : SB) : Prop where
 b : P s.b
 km : P s.km
 ev : ∀ g, s.ev.ownBlock = some g → P g
structure SB.Apart (s s' : SB) : Prop where
 b : s.b ≠ s'.b
 km : s.km ≠ s'.km
 ev : ∀ g, s.ev.ownBlock = some g → s'.ev.ownBlock ≠ some g
structure TSAt (w : World) (s : SB) (ts : TS) : Prop where
 blk : Blk w s.b 287 [s.ev, .map (some s.km)]
 ev : EventR.Own w 0 202 (fun _ => False) s.ev ts.events
 km : MapAt strE w s.km (ts.keys.map fun p => (p.1, p.2.val))
 nd : (ts.keys.map (·.1)).Nodup
 fit : ∀ p ∈ ts.keys, p.2.fit ∧ sfit p.1
abbrev TabA := List (Str × (TS × SB))
def TabA.tab (TA : TabA) : Tab := TA.map fun p => (p.1, p.2.1)
def TabA.ptrs (TA : TabA) : List (Str × Value) := TA.map fun p => (p.1, ptrV p.2.2.b)
structure StrsAt (w : World) (P : Nat → Prop) (m : Nat) (TA : TabA) : Prop where
 map : MapAt strE w m TA.ptrs
 nd : (TA.map (·.1)).Nodup
 each : ∀ p ∈ TA, TSAt w p.2.2 p.2.1 ∧ p.2.2.km ≠ m ∧ p.2.2.In P ∧ sfit p.1
 apart : TA.Pairwise fun p q => p.2.2.Apart q.2.2
def TabAt (w : World) (P : Nat → Prop) (tb : Nat) (T : Tab) : Prop :=
 P tb ∧ ((Blk w tb 252 [.map none] ∧ T = []) ∨ ∃ m TA, Blk w tb 252 [.map (some m)] ∧ P m ∧ StrsAt w P m TA ∧ T = TabA.tab TA)
section
variable {w w' : World} {P Q : Nat → Prop}
theorem SB.Apart.symm {s s' : SB} (h : s.Apart s') : s'.Apart s := ⟨h.b.symm, h.km.symm, fun g hg hn => h.ev g hn hg⟩
theorem SB.In.mono {s : SB} (h : s.In P) (hs : ∀ g, P g → Q g) : s.In Q := ⟨hs _ h.b, hs _ h.km, fun g hg => hs _ (h.ev g hg)⟩
theorem TSAt.same {s : SB} {ts : TS} (h : TSAt w s ts) (hi : s.In P) (hs : Same P w w') : TSAt w' s ts :=
 ⟨h.blk.same hs hi.b, h.ev.same' event_plain hs hi.ev, h.km.same hs hi.km, h.nd, h.fit⟩
theorem StrsAt.same {m : Nat} {TA : TabA} (h : StrsAt w P m TA) (hm : P m) (hs : Same P w w') : StrsAt w' P m TA :=
 ⟨h.map.same hs hm, h.nd, fun p hp => ⟨(h.each p hp).1.same (h.each p hp).2.2.1 hs, (h.each p hp).2⟩, h.apart⟩
theorem StrsAt.mono {m : Nat} {TA : TabA} (h : StrsAt w P m TA) (hs : ∀ g, P g → Q g) : StrsAt w Q m TA :=
 ⟨h.map, h.nd, fun p hp => ⟨(h.each p hp).1, (h.each p hp).2.1, (h.each p hp).2.2.1.mono hs, (h.each p hp).2.2.2⟩, h.apart⟩
theorem TabAt.same {tb : Nat} {T : Tab} (h : TabAt w P tb T) (hs : Same P w w') : TabAt w' P tb T := by
 obtain ⟨h1, ⟨hb, e⟩ | ⟨m, TA, hb, hm, hA, e⟩⟩ := h
 ·exact ⟨h1, .inl ⟨hb.same hs h1, e⟩⟩
 ·exact ⟨h1, .inr ⟨m, TA, hb.same hs h1, hm, hA.same hm hs, e⟩⟩
theorem TabAt.mono {tb : Nat} {T : Tab} (h : TabAt w P tb T) (hs : ∀ g, P g → Q g) : TabAt w Q tb T := by
 obtain ⟨h1, ⟨hb, e⟩ | ⟨m, TA, hb, hm, hA, e⟩⟩ := h
 ·exact ⟨hs _ h1, .inl ⟨hb, e⟩⟩
 ·exact ⟨hs _ h1, .inr ⟨m, TA, hb, hs _ hm, hA.mono hs, e⟩⟩
theorem TabAt.ext {tb : Nat} {T : Tab} (h : TabAt w P tb T) (hb : Below w.heap.size w w') : TabAt w' P tb T := h.same (js hb)
theorem TabAt.lt {tb : Nat} {T : Tab} (h : TabAt w P tb T) : tb < w.heap.size := by
 obtain ⟨h1, ⟨hb, e⟩ | ⟨m, TA, hb, hm, hA, e⟩⟩ := h
 ·exact hb.lt
 ·exact hb.lt
theorem tab_get (TA : TabA) (n : Str) : getA n TA.tab = (getA n TA).map (·.1) := getA_map (fun q : TS × SB => q.1) n TA
theorem ptrs_get (TA : TabA) (n : Str) : getA n TA.ptrs = (getA n TA).map fun q => ptrV q.2.b := getA_map (fun q : TS × SB => ptrV q.2.b) n TA
theorem tab_fst (TA : TabA) : TA.tab.map (·.1) = TA.map (·.1) := by simp [TabA.tab]
end
section
variable {κ β : Type} {enc : κ → Value} {R : Rep β} {V : List Value → Value} {w w' : World} {P Q : Nat → Prop} {v : Value} {l : List (κ × β)}
def MpAt (enc : κ → Value) (R : Rep β) (V : List Value → Value) (w : World) (P : Nat → Prop) (v : Value) (l : List (κ × β)) : Prop :=
 (l.map (·.1)).Nodup ∧ ((v = .map none ∧ l = []) ∨ ∃ (m : Nat) (LA : List (κ × (β × List Value))), v = .map (some m) ∧ P m ∧ MapAt enc w m (LA.map fun p => (p.1, V p.2.2)) ∧ (∀ p ∈ LA, R.rep w P p.2.2 p.2.1) ∧ l = LA.map fun p => (p.1, p.2.1))
theorem MpAt.same (h : MpAt enc R V w P v l) (hs : Same P w w') : MpAt enc R V w' P v l := by
 obtain ⟨hn, h | ⟨m, LA, e, hm, hM, hr, hl⟩⟩ := h
 ·exact ⟨hn, .inl h⟩
 ·exact ⟨hn, .inr ⟨m, LA, e, hm, hM.same hs hm, fun p hp => R.same (hr p hp) hs, hl⟩⟩
theorem MpAt.mono (h : MpAt enc R V w P v l) (hs : ∀ g, P g → g < w.heap.size → Q g) : MpAt enc R V w Q v l := by
 obtain ⟨hn, h | ⟨m, LA, e, hm, hM, hr, hl⟩⟩ := h
 ·exact ⟨hn, .inl h⟩
 ·exact ⟨hn, .inr ⟨m, LA, e, hs m hm hM.lt, hM, fun p hp => R.mono (hr p hp) hs, hl⟩⟩
theorem MpAt.nil_ : MpAt enc R V w P (.map none) [] := ⟨by simp, .inl ⟨rfl, rfl⟩⟩
end
def HeldR : Rep Held := (TxR.cat (BatchR.cat (StampR.cat IntR.sl))).via fun h => (h.tx, h.batch, h.stamp, h.firsts)
def OutcomeR : Rep Outcome := (TxR.cat (BoolR.cat (StampR.cat IntR.sl))).via fun h => (h.tx, h.yes, h.stamp, h.nodes)
structure SV where
 ring : Value
 tb : Nat
 held : Value
 outcomes : Value
 decided : Value
 frozen : Value
 log : Value
def St.cells (s : St) (v : SV) : List Value := [.int .i64 s.self, .int .i64 s.nodes, .int .i64 s.life, .int .i64 s.ceiling, v.ring, ptrV v.tb, v.held, v.outcomes, v.decided, v.frozen, v.log]
structure StIn (w : World) (P : Nat → Prop) (s : St) (v : SV) : Prop where
 fit : i64 s.self ∧ i64 s.nodes ∧ i64 s.life ∧ i64 s.ceiling
 ring : RangeR.sl.rep w P [v.ring] s.ring
 table : TabAt w P v.tb s.table
 held : MpAt txE HeldR aggV w P v.held s.held
 outcomes : MpAt txE OutcomeR aggV w P v.outcomes s.outcomes
 decided : MpAt txE IntR oneV w P v.decided s.decided
 frozen : RecR.sl.rep w P [v.frozen] s.frozen
 log : EventR.sl.rep w P [v.log] s.log
def StAt (w : World) (P : Nat → Prop) (g : Nat) (s : St) : Prop := ∃ v, Blk w g 176 (s.cells v) ∧ StIn w P s v
section
variable {w w' : World} {P Q : Nat → Prop} {s : St} {v : SV}
theorem StIn.same (h : StIn w P s v) (hs : Same P w w') : StIn w' P s v :=
 ⟨h.fit, RangeR.sl.same h.ring hs, h.table.same hs, h.held.same hs, h.outcomes.same hs, h.decided.same hs, RecR.sl.same h.frozen hs, EventR.sl.same h.log hs⟩
theorem StIn.mono (h : StIn w P s v) (hs : ∀ g, P g → Q g) : StIn w Q s v :=
 ⟨h.fit, RangeR.sl.mono h.ring fun g k _ => hs g k, h.table.mono hs, h.held.mono fun g k _ => hs g k, h.outcomes.mono fun g k _ => hs g k, h.decided.mono fun g k _ => hs g k, RecR.sl.mono h.frozen fun g k _ => hs g k, EventR.sl.mono h.log fun g k _ => hs g k⟩
theorem StAt.lt {g : Nat} (h : StAt w P g s) : g < w.heap.size := by
 obtain ⟨v, h, _⟩ := h
 exact h.lt
end
end Go.Proofs.YtcmjgghkmdbphaaGreatDoor
namespace Go.Proofs.YtcmjgghkmdbphaaGreatDoor
open Go.RowKit Go.ChangeMaps
theorem filter_erase {α β : Type} [DecidableEq β] (f : α → β) : ∀ (l : List α) (i : Nat) (x : α), (l.map f).Nodup → l[i]? = some x → l.filter (fun y => !decide (f y = f x)) = l.eraseIdx i
 | [], i, x, _, h => by simp at h
 | a :: l, 0, x, hn, h => by
   simp at h; subst h
   simp only [List.map_cons, List.nodup_cons] at hn
   simp only [List.eraseIdx_cons_zero]
   rw [List.filter_cons_of_neg (by simp), List.filter_eq_self]
   intro y hy
   have : f y ≠ f a := fun e => hn.1 (e ▸ List.mem_map.2 ⟨y, hy, rfl⟩)
   simp [this]
 | a :: l, i + 1, x, hn, h => by
   simp at h
   simp only [List.map_cons, List.nodup_cons] at hn
   have hx : x ∈ l := List.mem_of_getElem? h
   have : f a ≠ f x := fun e => hn.1 (e ▸ List.mem_map.2 ⟨x, hx, rfl⟩)
   rw [List.eraseIdx_cons_succ, List.filter_cons_of_pos (by simp [this]), filter_erase f l i x hn.2 h]
section
variable {κ : Type} {enc : κ → Value} {w w' : World} {m it : Nat} {ps left : List (κ × Value)} {P : Program}
def IterAt (enc : κ → Value) (w : World) (it m : Nat) (left : List (κ × Value)) : Prop :=
 ∃ (es : Array MapEntry) (clk since c0 : Nat) (seen : Array Nat), w.heap[m]? = some (.map es clk) ∧ w.heap[it]? = some (.mapIter (some m) since seen c0) ∧ (es.toList.map (·.born)).Nodup ∧
   (∀ x ∈ es.toList, x.born < since) ∧ since ≤ c0 ∧ since ≤ clk ∧ (leftOf es seen).toList.map (fun e => (e.key, e.val)) = left.map (fun p => (enc p.1, p.2))
theorem IterAt.block (h : IterAt enc w it m left) (h1 : w'.heap[m]? = w.heap[m]?) (h2 : w'.heap[it]? = w.heap[it]?) : IterAt enc w' it m left := by
 obtain ⟨es, clk, since, c0, seen, a, b, r⟩ := h
 exact ⟨es, clk, since, c0, seen, h1.trans a, h2.trans b, r⟩
theorem IterAt.lt (h : IterAt enc w it m left) : m < w.heap.size ∧ it < w.heap.size := by
 obtain ⟨es, clk, since, c0, seen, a, b, r⟩ := h
 exact ⟨(Array.getElem?_eq_some_iff.1 a).1, (Array.getElem?_eq_some_iff.1 b).1⟩
theorem IterAt.ext (h : IterAt enc w it m left) (hb : Below w.heap.size w w') : IterAt enc w' it m left := h.block (hb.block m h.lt.1) (hb.block it h.lt.2)
theorem run_range_at {t kt e : TypeId} (ht : P.underlying t = some (.map kt e)) (h : MapAt enc w m ps) :
 ∃ w', (Instr.range t (.map (some m))).run P w = .ok (.pointer (some ⟨w.heap.size, 0, none⟩)) w' ∧ IterAt enc w' w.heap.size m ps ∧ Below w.heap.size w w' ∧ w'.heap.size = w.heap.size + 1 := by
 obtain ⟨es, clk, hh, he, hp, hc⟩ := h
 refine ⟨_, run_range_map w t kt e m es clk ht hh, ⟨es, clk, clk, clk, #[], ?_, ?_, ?_, hc, Nat.le_refl _, Nat.le_refl _, ?_⟩, (jb _ _).al _, by simp⟩
 ·rw [heap_alloc_old w _ (Array.getElem?_eq_some_iff.1 hh).1]; exact hh
 ·exact heap_alloc_new w _
 ·exact hp.imp (fun h => Nat.ne_of_lt h)
 ·rw [← he]; congr 1; simp [leftOf]
theorem run_next_iter (ty : TypeId) (h : IterAt enc w it m left) :
 (left = [] ∧ (Instr.next (.pointer (some ⟨it, 0, none⟩)) false ty).run P w = .ok (.tuple #[.bool false]) w) ∨
 ∃ (i : Nat) (p : κ × Value) (w' : World), left[i]? = some p ∧ (Instr.next (.pointer (some ⟨it, 0, none⟩)) false ty).run P w = .ok (.tuple #[.bool true, enc p.1, p.2]) w' ∧ IterAt enc w' it m (left.eraseIdx i) ∧ Only (· = it) w w' ∧ w'.heap.size = w.heap.size ∧
   (∀ w'', w''.heap[m]? = w'.heap[m]? → w''.heap[it]? = w'.heap[it]? → (Instr.entry (.pointer (some ⟨it, 0, none⟩))).run P w'' = .ok (.tuple #[enc p.1, p.2]) w'') := by
 obtain ⟨es, clk, since, c0, seen, hm, hi, hn, ho, hs, hs2, hl⟩ := h
 rcases run_next_at (P := P) w ty it m since c0 seen es clk hi hm ho hs with ⟨h0, hr⟩ | ⟨e, he, w1, hw1, hr⟩
 ·left
  refine ⟨?_, hr⟩
  have : (leftOf es seen).toList = [] := by simpa using h0
  rw [this] at hl
  simpa using hl.symm
 ·right
  obtain ⟨i, hii⟩ := List.getElem?_of_mem he
  have hp := congrArg (·[i]?) hl
  simp only [List.getElem?_map, hii, Option.map_some] at hp
  obtain ⟨p, hpi, hpe⟩ := Option.map_eq_some_iff.1 hp.symm
  injection hpe with k1 k2
  have hwb : ∀ g : Nat, w1.heap[g]? = w.heap[g]? := fun g => by rcases hw1 with rfl | rfl <;> rfl
  have hmi : m ≠ it := by
   rintro rfl
   rw [hm] at hi; cases hi
  have hset : ∀ g : Nat, g ≠ it → (setBlock w1 it (.mapIter (some m) since (seen.push e.born) clk)).heap[g]? = w.heap[g]? := fun g hg => by
   rw [← hwb]; simp only [setBlock, Array.getElem?_setIfInBounds]; rw [if_neg (fun h => hg h.symm)]
  have hsz : w1.heap.size = w.heap.size := by rcases hw1 with rfl | rfl <;> rfl
  have hit : (setBlock w1 it (.mapIter (some m) since (seen.push e.born) clk)).heap[it]? = some (.mapIter (some m) since (seen.push e.born) clk) := by
   have := (Array.getElem?_eq_some_iff.1 hi).1
   simp [setBlock, hsz, this]
  have heL : e ∈ es.toList := by
   unfold leftOf at he; simp at he; simpa using he.1
  refine ⟨i, p, _, hpi, by rw [k1, k2]; exact hr, ⟨es, clk, since, clk, seen.push e.born, (hset m hmi).trans hm, hit, hn, ho, hs2, hs2, ?_⟩, ⟨?_, ?_, ?_, ?_, fun g _ hg => hset g hg⟩, by simp [setBlock, hsz], fun w'' h1 h2 => ?_⟩
  ·rw [map_erase, ← hl, ← map_erase]
   congr 1
   have hnl : ((leftOf es seen).toList.map (·.born)).Nodup := by
    unfold leftOf
    rw [Array.toList_filter]
    exact hn.sublist (List.Sublist.map _ (List.filter_sublist))
   rw [← filter_erase (·.born) _ i e hnl hii]
   unfold leftOf
   simp only [Array.toList_filter, List.filter_filter]
   apply List.filter_congr
   intro x _
   rw [Bool.eq_iff_iff]
   simp
   exact ⟨fun h => ⟨h.2, h.1⟩, fun h => ⟨h.2, h.1⟩⟩
  ·rcases hw1 with rfl | rfl <;> rfl
  ·rcases hw1 with rfl | rfl <;> rfl
  ·rcases hw1 with rfl | rfl <;> rfl
  ·simp [setBlock, hsz]
  ·rw [k1, k2]
   exact run_entry_at w'' it m since seen es clk e (h2.trans hit) (h1.trans ((hset m hmi).trans hm)) heL hn
variable {ops : Array Oper} {rest : List Oper} {o : Oper} {a : Act} {Q : Exit → Act → World → Prop}
theorem wpList_range_map (hg : o.guard = none) (mo : Operand) (t : TypeId) (hop : o.op = Op.range t mo) {kt e : TypeId} (ht : P.underlying t = some (.map kt e)) (hm : a.eval mo = .map (some m)) (h : MapAt enc w m ps)
 (hK : ∀ w', IterAt enc w' w.heap.size m ps → Below w.heap.size w w' → w'.heap.size = w.heap.size + 1 → wpList P ops Q rest (a.put o.dst (.pointer (some ⟨w.heap.size, 0, none⟩))) w') : wpList P ops Q (o :: rest) a w := by
 refine wpList_plain hg fun K' hK' => ?_
 obtain ⟨w', hrun, r1, r2, r3⟩ := run_range_at (P := P) ht h
 unfold Oper.wp
 simp [execOp, hop, hm, hrun, Result.andThen]
 exact hK' _ _ (hK w' r1 r2 r3)
theorem wpList_next_map (hg : o.guard = none) (ito : Operand) (hop : o.op = Op.next ito false) (hit : a.eval ito = .pointer (some ⟨it, 0, none⟩)) (h : IterAt enc w it m left)
 (hDone : left = [] → wpList P ops Q rest (a.put o.dst (.tuple #[.bool false])) w)
 (hMore : ∀ (i : Nat) (p : κ × Value) (w' : World), left[i]? = some p → IterAt enc w' it m (left.eraseIdx i) → Only (· = it) w w' → w'.heap.size = w.heap.size →
  (∀ w'', w''.heap[m]? = w'.heap[m]? → w''.heap[it]? = w'.heap[it]? → (Instr.entry (.pointer (some ⟨it, 0, none⟩))).run P w'' = .ok (.tuple #[enc p.1, p.2]) w'') → wpList P ops Q rest (a.put o.dst (.tuple #[.bool true, enc p.1, p.2])) w') : wpList P ops Q (o :: rest) a w := by
 refine wpList_plain hg fun K' hK' => ?_
 unfold Oper.wp
 rcases run_next_iter (P := P) o.type h with ⟨h0, hrun⟩ | ⟨i, p, w', hp, hrun, r1, r2, r3, r4⟩
 ·simp [execOp, hop, hit, hrun, Result.andThen]
  exact hK' _ _ (hDone h0)
 ·simp [execOp, hop, hit, hrun, Result.andThen]
  exact hK' _ _ (hMore i p w' hp r1 r2 r3 r4)
def leftLen (w : World) (it m : Nat) : Nat := match w.heap[it]?, w.heap[m]? with
 | some (.mapIter _ _ seen _), some (.map es _) => (leftOf es seen).size
 | _, _ => 0
theorem IterAt.len (h : IterAt enc w it m left) : leftLen w it m = left.length := by
 obtain ⟨es, clk, since, c0, seen, hm, hi, hn, ho, hs, hs2, hl⟩ := h
 unfold leftLen
 rw [hi, hm]
 have := congrArg List.length hl
 simpa using this
def IterNil (w : World) (it : Nat) : Prop := ∃ a s b, w.heap[it]? = some (.mapIter none a s b)
theorem wpList_range_nil (hg : o.guard = none) (mo : Operand) (t : TypeId) (hop : o.op = Op.range t mo) {kt e : TypeId} (ht : P.underlying t = some (.map kt e)) (hm : a.eval mo = .map none)
 (hK : ∀ w', IterNil w' w.heap.size → Below w.heap.size w w' → w'.heap.size = w.heap.size + 1 → wpList P ops Q rest (a.put o.dst (.pointer (some ⟨w.heap.size, 0, none⟩))) w') : wpList P ops Q (o :: rest) a w := by
 refine wpList_plain hg fun K' hK' => ?_
 have hrun := run_range_nilMap (P := P) w t kt e ht
 unfold Oper.wp
 simp [execOp, hop, hm, hrun, Result.andThen]
 exact hK' _ _ (hK _ ⟨_, _, _, heap_alloc_new w _⟩ ((jb _ _).al _) (by simp))
theorem wpList_next_nil (hg : o.guard = none) (ito : Operand) (hop : o.op = Op.next ito false) (hit : a.eval ito = .pointer (some ⟨it, 0, none⟩)) (h : IterNil w it)
 (hDone : wpList P ops Q rest (a.put o.dst (.tuple #[.bool false])) w) : wpList P ops Q (o :: rest) a w := by
 refine wpList_plain hg fun K' hK' => ?_
 obtain ⟨x, s, b, h⟩ := h
 have hrun : (Instr.next (.pointer (some ⟨it, 0, none⟩)) false o.type).run P w = .ok (.tuple #[.bool false]) w := by
  simp only [Instr.next, getObj, Sem.run_bind, Sem.run, h, Result.andThen]
  rfl
 unfold Oper.wp
 simp [execOp, hop, hit, hrun, Result.andThen]
 exact hK' _ _ hDone
end
end Go.Proofs.YtcmjgghkmdbphaaGreatDoor
namespace Go.Proofs.YtcmjgghkmdbphaaGreatDoor
open Go.RowKit
section
variable {κ : Type} [DecidableEq κ] {P : Program} {kt : TypeId} {enc : κ → Value} {w w' : World} {m : Nat} {ps : List (κ × Value)}
variable {ops : Array Oper} {rest : List Oper} {o : Oper} {a : Act} {Q : Exit → Act → World → Prop}
theorem wpList_lookup_two (r : Option Value) (K : KeyOk P kt enc) (hg : o.guard = none) (mo x : Operand) (t : TypeId) (hop : o.op = Op.lookup t mo x true) {e : TypeId}
 (ht : P.underlying t = some (.map kt e)) (hm : a.eval mo = .map (some m)) (h : MapAt enc w m ps) (k : κ) (hx : a.eval x = enc k) (hr : assocOf k ps = r) (z : Value) (hz : (zeroValue e).run P w = .ok z w)
 (hK : wpList P ops Q rest (a.put o.dst (.tuple #[r.getD z, .bool r.isSome])) w) : wpList P ops Q (o :: rest) a w := by
 refine wpList_lookup_map K hg mo x t true hop ht hm h k hx z hz ?_
 rw [hr]; exact hK
theorem wpList_lookup_one (r : Option Value) (K : KeyOk P kt enc) (hg : o.guard = none) (mo x : Operand) (t : TypeId) (hop : o.op = Op.lookup t mo x false) {e : TypeId}
 (ht : P.underlying t = some (.map kt e)) (hm : a.eval mo = .map (some m)) (h : MapAt enc w m ps) (k : κ) (hx : a.eval x = enc k) (hr : assocOf k ps = r) (z : Value) (hz : (zeroValue e).run P w = .ok z w)
 (hK : wpList P ops Q rest (a.put o.dst (r.getD z)) w) : wpList P ops Q (o :: rest) a w := by
 refine wpList_lookup_map K hg mo x t false hop ht hm h k hx z hz ?_
 rw [hr]; exact hK
theorem wpList_delete_map (K : KeyOk P kt enc) (hg : o.guard = none) (mo x : Operand) (t : TypeId) (hop : o.op = Op.call { callee := Callee.builtin Builtin.delete, args := #[mo, x], argTypes := #[t, kt] }) {e : TypeId}
 (ht : P.underlying t = some (.map kt e)) (hm : a.eval mo = .map (some m)) (h : MapAt enc w m ps) (k : κ) (hx : a.eval x = enc k)
 (hK : ∀ w', MapAt enc w' m (assocDel k ps) → Only (· = m) w w' → wpList P ops Q rest (a.put o.dst (.tuple #[])) w') : wpList P ops Q (o :: rest) a w := by
 refine wpList_plain hg fun K' hK' => ?_
 obtain ⟨w', hrun, r1, r2⟩ := run_delete_map (ty := o.type) K ht h k
 unfold Oper.wp
 simp [execOp, hop, resolve, invoke, builtin, hm, hx, hrun, Result.andThen]
 exact hK' _ _ (hK w' r1 r2)
end
end Go.Proofs.YtcmjgghkmdbphaaGreatDoor
