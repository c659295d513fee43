/- ring: owned, Sound, at, Find, Of. table: New, get, Version, Known, goes, in. table: Names, some: the keys of a map, sorted. table: some, Take. -/
import Derived.Test.YtcmjgghkmdbphaaGreatDoorT08
import Derived.Test.YtcmjgghkmdbphaaGreatDoorT05
import Derived.Test.YtcmjgghkmdbphaaGreatDoorT04
import Derived.Sort.KeysCollected
import Derived.Test.YtcmjgghkmdbphaaGreatDoorT07
set_option maxRecDepth 20000
set_option maxHeartbeats 25600000
namespace Go.Proofs.YtcmjgghkmdbphaaGreatDoor
open Go.RowKit
def Range.val (r : Range) : Value := .agg #[.int .i64 r.first, .int .i64 r.last, .int .i64 r.owner, .int .i64 r.epoch]
attribute [local go_sem] Range.val
theorem owned_any (r : Range) (w : World) : Calls Tryz.prog 270 #[r.val] w fun e w' => e = .returned (.bool (ownedB r)) ∧ Below w.heap.size w w' := by
 unfold Range.val
 obtain ⟨a, b, c, d⟩ := r
 have hp : ownedB ⟨a, b, c, d⟩ = ownedB ⟨a, b, c, d⟩ := rfl
 conv at hp => rhs; simp only [ownedB]
 rw [hp]
 clear hp
 go_enter Tryz.func270, Tryz.ntmps270
 go_wp2
 all_goals
  go_ret
  refine ⟨ret_bool ?_, by repeat (with_reducible first | assumption | exact jb _ _ | refine Below.al ?_ _ | refine Below.drew ?_ | apply Below.st1)⟩
  go_light
  rw [Bool.eq_iff_iff]
  simp at *
  omega
theorem soundFrom_drop (l : List Range) (k : Nat) (n : Int) (h : k < l.length) : soundFrom (l.drop k) n = if l[k].first = n ∧ n ≤ l[k].last ∧ l[k].last ≤ 4294967295 ∧ ownedB l[k] = true then soundFrom (l.drop (k + 1)) (l[k].last + 1) else none := by
 rw [List.drop_eq_getElem_cons h]; rfl
theorem soundR_any (A : Option Addr) (c : Nat) (l : List Range) (P : Nat → Prop) (w : World) (hr : RangeR.Row w P A l) (hl : l.length ≤ 1000000) :
 Calls Tryz.prog 269 #[.slice A l.length c] w fun e w' => e = .returned (.bool (soundR l)) ∧ Below w.heap.size w w' := by
 have HR := jh hr; clear hr
 have HL := jh hl; clear hl
 have CO := jh (fun r W => owned_any r W)
 unfold Range.val at CO
 go_enter Tryz.func269, Tryz.ntmps269
 go_wp2_with fail
 go_loopw [3, 8] (fun nx i wr => ∃ (k : Nat) (n : Int), k ≤ l.length ∧ i = .int .i64 k ∧ nx = .int .i64 n ∧ (0 ≤ n ∧ n ≤ 4294967296) ∧ soundFrom (l.drop k) n = soundFrom l 0 ∧ Below w.heap.size w wr) (fun _ i _ => l.length - (intOf i).toNat)
 case atStart => exact ⟨0, 0, Nat.zero_le _, rfl, rfl, by omega, rfl, jb _ _⟩
 case round =>
  obtain ⟨k, n, hk, rfl, rfl, hn, hs, hbl⟩ := hrel
  have HS := jh hs; clear hs
  by_cases hlt : k < l.length
  ·have hlk := jg hlt
   have hd := soundFrom_drop l k n hlt
   generalize l[k] = x at hlk hd
   obtain ⟨b, o, cs, rfl, hP, hbw, hrep, hcs⟩ := (HR.out.ext hbl).at_ hlk
   obtain ⟨rfl, hf⟩ := range_rep.1 hrep
   have HD := jh hd
   have c0 := hcs 0 _ rfl; have c1 := hcs 1 _ rfl; have c2 := hcs 2 _ rfl; have c3 := hcs 3 _ rfl; simp only [RangeR_size, Nat.add_zero] at c0 c1 c2 c3
   clear hd hcs hrep hlk
   have hlt' : (k : Int) < l.length := by omega
   have hbx := (jb wr.heap.size wr).al (.cells #[.int .i64 x.first, .int .i64 x.last, .int .i64 x.owner, .int .i64 x.epoch] 27)
   have hWK : Hid (wrap64 ((k : Int) + 1) = ((k + 1 : Nat) : Int)) := jh (by have := HL.out; rw [wrap_in _ (by omega)]; rfl)
   have hbad : (x.first = n ∧ n ≤ x.last ∧ x.last ≤ 4294967295 → ownedB x = false) → false = soundR l := fun h => by
    have h1 := HD.out
    rw [if_neg (fun hh => by have := h ⟨hh.1, hh.2.1, hh.2.2.1⟩; rw [this] at hh; exact absurd hh.2.2.2 (by simp)), HS.out] at h1
    unfold soundR; rw [h1]; rfl
   have HBAD := jh hbad; clear hbad
   have hcase : x.first ≠ n ∨ (x.first = n ∧ x.last < n) ∨ (x.first = n ∧ ¬ x.last < n ∧ 4294967295 < x.last) ∨ (x.first = n ∧ ¬ x.last < n ∧ ¬ 4294967295 < x.last) := by omega
   rcases hcase with g | g | g | g
   ·have G := jh g
    have g1 : (x.first == n) = false := by rw [beq_eq_false_iff_ne]; exact g
    clear g
    go_wp2_with fail
    go_ret
    exact ⟨ret_bool (HBAD.out fun h => absurd h.1 G.out), hbl.tr (by repeat (with_reducible first | assumption | exact jb _ _ | refine Below.al ?_ _ | refine Below.drew ?_ | apply Below.st1))⟩
   ·have G := jh g
    obtain ⟨rfl, g2⟩ := g
    go_wp2_with fail
    go_ret
    exact ⟨ret_bool (HBAD.out fun h => by have := G.out.2; have := h.2.1; omega), hbl.tr (by repeat (with_reducible first | assumption | exact jb _ _ | refine Below.al ?_ _ | refine Below.drew ?_ | apply Below.st1))⟩
   ·have G := jh g
    obtain ⟨rfl, g2, g3⟩ := g
    have g2' : decide (x.last < x.first) = false := jd g2
    clear g2
    go_wp2_with fail
    go_ret
    exact ⟨ret_bool (HBAD.out fun h => by have := G.out.2; have := h.2.2; omega), hbl.tr (by repeat (with_reducible first | assumption | exact jb _ _ | refine Below.al ?_ _ | refine Below.drew ?_ | apply Below.st1))⟩
   ·have G := jh g
    obtain ⟨rfl, g2, g3⟩ := g
    have g2' : decide (x.last < x.first) = false := jd g2
    have g3' : decide (4294967295 < x.last) = false := jd g3
    clear g2 g3
    go_wp2_with fail
    refine (CO.out x _).mono ?_
    rintro e w1 ⟨rfl, hb1⟩
    have hb1' := hbx.tr hb1
    have C1 : w1.cell? ⟨wr.heap.size, 1, none⟩ = some (.int .i64 x.last) := ((Blk.new wr 27 [.int .i64 x.first, .int .i64 x.last, .int .i64 x.owner, .int .i64 x.epoch]).ext hb1).cell 1
    clear hb1
    cases hq : ownedB x
    ·have HQ := jh hq; clear hq
     go_wp2_with fail
     go_ret
     exact ⟨ret_bool (HBAD.out fun _ => HQ.out), hbl.tr hb1'⟩
    ·have HQ := jh hq; clear hq
     have hxw : Hid (wrap64 (x.last + 1) = x.last + 1) := jh (wrap_in _ (by have := G.out; omega))
     go_wp2_with fail
     go_round
     case rel =>
      refine ⟨k + 1, x.last + 1, by omega, by rw [hWK.out], by rw [hxw.out], by have := G.out; omega, ?_, hbl.tr hb1'⟩
      rw [← HS.out, HD.out, if_pos (by have := G.out; simp [HQ.out]; omega)]
     case measure => rw [hWK.out]; simp [intOf]; omega
  ·have hkn : k = l.length := by omega
   subst hkn
   have hs := HS.out
   rw [List.drop_length] at hs
   have hs' : some n = soundFrom l 0 := hs
   have HS' := jh hs'
   clear hs hs'
   by_cases hn1 : n = 4294967296
   ·subst hn1
    by_cases h64 : l.length ≤ 64
    ·have h64' : (l.length : Int) ≤ 64 := by omega
     have H64 := jh h64; clear h64
     go_wp2_with fail
     go_ret
     exact ⟨ret_bool (by unfold soundR; rw [← HS'.out]; simp [H64.out]), hbl⟩
    ·have h64' : decide ((l.length : Int) ≤ 64) = false := jd (by omega)
     have H64 := jh h64; clear h64
     go_wp2_with fail
     go_ret
     exact ⟨ret_bool (by unfold soundR; rw [← HS'.out]; simp; have := H64.out; omega), hbl⟩
   ·have H1 := jh hn1
    have g1 : (n == 4294967296) = false := by rw [beq_eq_false_iff_ne]; exact hn1
    clear hn1
    go_wp2_with fail
    go_ret
    exact ⟨ret_bool (by unfold soundR; rw [← HS'.out]; simp [H1.out]), hbl⟩
theorem atHas_any (h : Int) (b : Nat) (r : Range) (w : World) (hb : w.cell? ⟨b, 0, none⟩ = some (.int .i64 h)) : Calls Tryz.prog 302 #[r.val, .pointer (some ⟨b, 0, none⟩)] w fun e w' => e = .returned (.bool (r.has h)) ∧ Below w.heap.size w w' := by
 have hlt := lt_of_cell hb
 have hb' : (w.alloc (.cells #[.int .i64 r.first, .int .i64 r.last, .int .i64 r.owner, .int .i64 r.epoch] 27)).cell? ⟨b, 0, none⟩ = some (.int .i64 h) := (Below.cell ((jb _ w).al _) (p := ⟨b, 0, none⟩) hlt).trans hb
 unfold Range.val
 go_enter Tryz.func302, Tryz.ntmps302
 go_wp2
 all_goals
  go_ret
  refine ⟨ret_bool ?_, by repeat (with_reducible first | assumption | exact jb _ _ | refine Below.al ?_ _ | refine Below.drew ?_ | apply Below.st1)⟩
  go_light
  unfold Range.has
  rw [Bool.eq_iff_iff]
  simp at *
  omega
theorem enters_at : ∀ args w, (callFunc 302 args).run Tryz.prog w = .ok (.enter 302 args) w := enters_of Tryz.func302 (by kernel_rfl) rfl
theorem at_any (A : Option Addr) (c : Nat) (l : List Range) (h : Int) (P : Nat → Prop) (w : World) (hr : RangeR.Row w P A l) (hl : l.length ≤ 1000000) :
 Calls Tryz.prog 262 #[.slice A l.length c, .int .i64 h] w fun e w' => e = .returned (.int .i64 (atR l h)) ∧ Below w.heap.size w w' := by
 have hb0 := (jb w.heap.size w).al (.cells #[.int .i64 h] 3)
 have CS := soundR_any A c l P (w.alloc (.cells #[.int .i64 h] 3)) (hr.ext hb0) hl
 have B0 := Blk.new w 3 [.int .i64 h]
 have CI := jh fun (W : World) (hW : Below (w.alloc (.cells #[.int .i64 h] 3)).heap.size (w.alloc (.cells #[.int .i64 h] 3)) W) => idxF_Range 302 [.pointer (some ⟨w.heap.size, 0, none⟩)] (fun r => r.has h) enters_at A c l P W (hr.ext (hb0.tr hW)) (by omega) (fun a cs W' _ ha hb' => by
  obtain ⟨rfl, _⟩ := range_rep.1 ha
  exact atHas_any h w.heap.size a W' (((B0.ext hW).ext hb').cell 0))
 clear hr
 go_enter Tryz.func262, Tryz.ntmps262
 go_wp2_with fail
 refine CS.mono ?_
 clear CS
 rintro e w1 ⟨rfl, hb1⟩
 cases hq : soundR l
 ·have HQ := jh hq; clear hq
  go_wp2_with fail
  go_ret
  exact ⟨by unfold atR; rw [HQ.out]; rfl, hb0.tr hb1⟩
 ·have HQ := jh hq; clear hq
  have C := CI.out w1 hb1
  clear CI
  go_wp2_with fail
  refine C.mono ?_
  clear C
  rintro e w2 ⟨rfl, hb2⟩
  go_wp2_with fail
  go_ret
  exact ⟨by unfold atR; rw [HQ.out]; rfl, (hb0.tr hb1).tr hb2⟩
theorem atR_bd (l : List Range) (h : Int) : -1 ≤ atR l h ∧ atR l h < l.length := by
 unfold atR
 split
 ·exact idxI_bd _ _
 ·omega
def Found (r : Range) (b : Bool) : Value := .tuple #[.agg #[.int .i64 r.first, .int .i64 r.last, .int .i64 r.owner, .int .i64 r.epoch], .bool b]
theorem find_any (A : Option Addr) (c : Nat) (l : List Range) (h : Int) (P : Nat → Prop) (w : World) (hr : RangeR.Row w P A l) (hl : l.length ≤ 1000000) :
 Calls Tryz.prog 180 #[.slice A l.length c, .int .i64 h] w fun e w' => e = .returned (Found (findR l h).1 (findR l h).2) ∧ Below w.heap.size w w' := by
 have hb0 := (jb w.heap.size w).al (.cells #[.int .i64 0, .int .i64 0, .int .i64 0, .int .i64 0] 27)
 have CS := at_any A c l h P (w.alloc (.cells #[.int .i64 0, .int .i64 0, .int .i64 0, .int .i64 0] 27)) (hr.ext hb0) hl
 have B0 := Blk.new w 27 [.int .i64 0, .int .i64 0, .int .i64 0, .int .i64 0]
 have hbd := atR_bd l h
 have HR := jh (hr.mono (Q := fun g => g < w.heap.size) fun g _ h => h); clear hr
 have HF := jh (show findR l h = if atR l h < 0 then (zeroRange, false) else (l.getD (atR l h).toNat zeroRange, true) from rfl)
 generalize atR l h = i at *
 go_enter Tryz.func180, Tryz.ntmps180
 go_wp2_with fail
 refine CS.mono ?_
 clear CS
 rintro e w1 ⟨rfl, hb1⟩
 have B1 := B0.ext hb1
 have hw1 := hb0.tr hb1
 have hz1 := hb1.size
 simp only [World.size_alloc] at hz1
 clear B0 hb0 hb1
 have HB := jh B1
 have f0 := B1.frozen 0
 have f1 := B1.frozen 1
 have f2 := B1.frozen 2
 have f3 := B1.frozen 3
 have b0 := B1.cell 0
 have b1 := B1.cell 1
 have b2 := B1.cell 2
 have b3 := B1.cell 3
 simp only [List.getElem?_cons_zero, List.getElem?_cons_succ] at b0 b1 b2 b3
 clear B1
 by_cases hi : i < 0
 ·have HI := jh hi
  go_wp2_with fail
  rw [show findR l h = (zeroRange, false) from by rw [HF.out, if_pos HI.out]]
  exact bodyPost_ret (results_blk_tmp rfl _ ((((HB.out.set_ 0 (.int .i64 0)).set_ 1 (.int .i64 0)).set_ 2 (.int .i64 0)).set_ 3 (.int .i64 0)) rfl Tryz.underlying27 rfl (by kernel_rfl)) rfl ⟨rfl, (((hw1.st (Nat.le_refl _) _).st (Nat.le_refl _) _).st (Nat.le_refl _) _).st (Nat.le_refl _) _⟩
 ·have HI := jh hi
  have hi' : decide (i < 0) = false := jd hi
  obtain ⟨k, rfl⟩ : ∃ k : Nat, i = k := ⟨i.toNat, by omega⟩
  have hkl : k < l.length := by omega
  have hlk := jg hkl
  have hgd : l.getD k zeroRange = l[k] := by simp [hkl]
  generalize l[k] = x at hlk hgd
  obtain ⟨b, o, cs, rfl, hP, hbw, hrep, hcs⟩ := (HR.out.ext hw1).at_ hlk
  obtain ⟨rfl, hf⟩ := range_rep.1 hrep
  have c0 := hcs 0 _ rfl; have c1 := hcs 1 _ rfl; have c2 := hcs 2 _ rfl; have c3 := hcs 3 _ rfl; simp only [RangeR_size, Nat.add_zero] at c0 c1 c2 c3
  have HGD := jh hgd
  clear hgd hlk hrep hcs hi
  have hkl' : (k : Int) < l.length := by omega
  have hne : b ≠ w.heap.size := by omega
  go_wp2_with fail
  rw [show findR l h = (x, true) from by rw [HF.out, if_neg (by omega), ← HGD.out]; rfl]
  exact bodyPost_ret (results_blk_tmp rfl _ ((((HB.out.set_ 0 (.int .i64 x.first)).set_ 1 (.int .i64 x.last)).set_ 2 (.int .i64 x.owner)).set_ 3 (.int .i64 x.epoch)) rfl Tryz.underlying27 rfl (by kernel_rfl)) rfl ⟨rfl, (((hw1.st (Nat.le_refl _) _).st (Nat.le_refl _) _).st (Nat.le_refl _) _).st (Nat.le_refl _) _⟩
theorem of_any (A : Option Addr) (c : Nat) (l : List Range) (s : Str) (P : Nat → Prop) (w : World) (hr : RangeR.Row w P A l) (hl : l.length ≤ 1000000) (hs : sfit s) :
 Calls Tryz.prog 209 #[.slice A l.length c, .string s] w fun e w' => e = .returned (Found (ofR l s).1 (ofR l s).2) ∧ Below w.heap.size w w' := by
 have hb0 := (jb w.heap.size w).al (.cells #[.int .i64 0, .int .i64 0, .int .i64 0, .int .i64 0] 27)
 have CH := fun W => hash_any s W hs
 have CS := jh fun (W : World) (hW : Below w.heap.size w W) => find_any A c l (hashS s) P W (hr.ext hW) hl
 have B0 := Blk.new w 27 [.int .i64 0, .int .i64 0, .int .i64 0, .int .i64 0]
 have hbd := hash_bd s.data.toList
 change 0 ≤ hashS s ∧ hashS s < 4294967296 at hbd
 have HF := jh (show ofR l s = findR l (hashS s) from rfl)
 clear hr hs
 unfold Found at CS
 rw [HF.out]
 clear HF
 go_enter Tryz.func209, Tryz.ntmps209
 go_wp2_with fail
 refine (CH _).mono ?_
 rintro e w' ⟨rfl, rfl⟩
 clear CH
 obtain ⟨h0, h1⟩ := hbd
 go_wp2_with fail
 refine (CS.out _ hb0).mono ?_
 clear CS
 rintro e w1 ⟨rfl, hb1⟩
 have B1 := B0.ext hb1
 have hw1 := hb0.tr hb1
 have hz1 := hb1.size
 simp only [World.size_alloc] at hz1
 clear B0 hb0 hb1
 have HB := jh B1
 have f0 := B1.frozen 0
 have f1 := B1.frozen 1
 have f2 := B1.frozen 2
 have f3 := B1.frozen 3
 have b0 := B1.cell 0
 have b1 := B1.cell 1
 have b2 := B1.cell 2
 have b3 := B1.cell 3
 simp only [List.getElem?_cons_zero, List.getElem?_cons_succ] at b0 b1 b2 b3
 clear B1
 generalize hq : findR l (hashS s) = q
 have HQ := jh hq
 clear hq
 obtain ⟨x, g⟩ := q
 go_wp2_with fail
 rw [HQ.out]
 exact bodyPost_ret (results_blk_tmp rfl _ ((((HB.out.set_ 0 (.int .i64 x.first)).set_ 1 (.int .i64 x.last)).set_ 2 (.int .i64 x.owner)).set_ 3 (.int .i64 x.epoch)) rfl Tryz.underlying27 rfl (by kernel_rfl)) rfl ⟨rfl, (((hw1.st (Nat.le_refl _) _).st (Nat.le_refl _) _).st (Nat.le_refl _) _).st (Nat.le_refl _) _⟩
end Go.Proofs.YtcmjgghkmdbphaaGreatDoor
namespace Go.Proofs.YtcmjgghkmdbphaaGreatDoor
open Go.RowKit
theorem tnew_any (w : World) : Calls Tryz.prog 84 #[] w fun e w' => e = .returned (ptrV w.heap.size) ∧ w' = w.alloc (.cells #[.map none] 252) := by
 go_enter Tryz.func84, Tryz.ntmps84
 go_wp2
 go_ret
 exact ⟨rfl, rfl⟩
theorem TabAt.new (w : World) : TabAt (w.alloc (.cells #[.map none] 252)) (· = w.heap.size) w.heap.size [] := ⟨rfl, .inl ⟨Blk.new w 252 [.map none], rfl⟩⟩
theorem zero_sptr (w : World) : (zeroValue 283).run Tryz.prog w = .ok (.pointer none) w := by kernel_rfl
def GotStream (w : World) (P : Nat → Prop) (T : Tab) (n : Str) (e : Ending) : Prop := match getA n T with | none => e = .returned (.pointer none) | some ts => ∃ s : SB, e = .returned (ptrV s.b) ∧ TSAt w s ts ∧ s.In P
theorem get_any (tb : Nat) (T : Tab) (n : Str) (P : Nat → Prop) (w : World) (h : TabAt w P tb T) : Calls Tryz.prog 212 #[ptrV tb, .string n] w fun e w' => GotStream w P T n e ∧ w = w' := by
 unfold ptrV
 obtain ⟨hp, ⟨hb, rfl⟩ | ⟨m, TA, hb, hm, hA, rfl⟩⟩ := h
 ·have b0 : w.cell? ⟨tb, 0, none⟩ = some (.map none) := hb.cell 0
  go_enter Tryz.func212, Tryz.ntmps212
  go_wp2_with (at_lookup; refine wpList_lookup_nil strKey rfl (.tmp 10) (.tmp 11) 250 false rfl Tryz.underlying250 rfl n rfl _ (zero_sptr _) ?_; rw [if_neg (by simp)])
  go_ret
  exact ⟨rfl, rfl⟩
 ·have b0 : w.cell? ⟨tb, 0, none⟩ = some (.map (some m)) := hb.cell 0
  have HM := hA.map
  have hpg := ptrs_get TA n
  rw [← assocOf_eq] at hpg
  have htg := tab_get TA n
  cases hg : getA n TA with
  | none =>
    rw [hg] at hpg htg
    have HG := jh htg
    have HP := jh hpg
    clear hpg htg hg
    go_enter Tryz.func212, Tryz.ntmps212
    go_wp2_with (at_lookup; refine wpList_lookup_map strKey rfl (.tmp 10) (.tmp 11) 250 false rfl Tryz.underlying250 rfl HM n rfl _ (zero_sptr _) ?_; rw [if_neg (by simp), HP.out])
    go_ret
    exact ⟨by unfold GotStream; rw [HG.out]; rfl, rfl⟩
  | some q =>
    obtain ⟨ts, s⟩ := q
    rw [hg] at hpg htg
    have HG := jh htg
    have HP := jh hpg
    have HE := jh (hA.each _ (getA_mem hg))
    clear hpg htg hg
    go_enter Tryz.func212, Tryz.ntmps212
    go_wp2_with (at_lookup; refine wpList_lookup_map strKey rfl (.tmp 10) (.tmp 11) 250 false rfl Tryz.underlying250 rfl HM n rfl _ (zero_sptr _) ?_; rw [if_neg (by simp), HP.out])
    go_ret
    exact ⟨by unfold GotStream; rw [HG.out]; exact ⟨s, rfl, HE.out.1, HE.out.2.2.1⟩, rfl⟩
theorem version_any (tb : Nat) (T : Tab) (n : Str) (P : Nat → Prop) (w : World) (h : TabAt w P tb T) : Calls Tryz.prog 114 #[ptrV tb, .string n] w fun e w' => e = .returned (.int .i64 (versionT T n)) ∧ w = w' := by
 have C := get_any tb T n P w h
 have HV := jh (show versionT T n = match getA n T with | some s => (s.events.length : Int) | none => 0 from rfl)
 unfold ptrV at C ⊢
 unfold GotStream at C
 clear h
 cases hg : getA n T with
 | none =>
   rw [hg] at C
   have HG := jh hg
   clear hg
   go_enter Tryz.func114, Tryz.ntmps114
   go_wp2_with fail
   refine C.mono ?_
   clear C
   rintro e w' ⟨he, rfl⟩
   have he : e = .returned (.pointer none) := he
   subst he
   go_wp2_with fail
   go_ret
   exact ⟨by rw [HV.out, HG.out]; rfl, rfl⟩
 | some ts =>
   rw [hg] at C
   have HG := jh hg
   clear hg
   go_enter Tryz.func114, Tryz.ntmps114
   go_wp2_with fail
   refine C.mono ?_
   clear C
   rintro e w' ⟨he, rfl⟩
   obtain ⟨s, rfl, hs, hi⟩ : ∃ s : SB, e = .returned (ptrV s.b) ∧ TSAt w s ts ∧ s.In P := he
   obtain ⟨A, c, hev, _⟩ := hs.ev.form
   have b0 : w.cell? ⟨s.b, 0, none⟩ = some (.slice A ts.events.length c) := by rw [← hev]; exact hs.blk.cell 0
   clear hev hs
   unfold ptrV
   go_wp2_with fail
   go_ret
   exact ⟨by rw [HV.out, HG.out]; rfl, rfl⟩
theorem zero_known (w : World) : (zeroValue 49).run Tryz.prog w = .ok (.agg #[.string ⟨#[]⟩, .int .i64 0, .int .i64 0, .int .i64 0, .int .i64 0]) w := by kernel_rfl
def KnownV (k : Known) (b : Bool) : Value := .tuple #[.agg #[.string k.key, .int .i64 k.first, .int .i64 k.stamp.wall, .int .i64 k.stamp.logic, .int .i64 k.stamp.node], .bool b]
theorem keys_get (l : List (Str × Known)) (n : Str) : assocOf n (l.map fun p => (p.1, p.2.val)) = (getA n l).map Known.val := by rw [assocOf_eq]; exact getA_map Known.val n l
theorem knownT_none {T : Tab} {n k : Str} {s : TS} (h : getA n T = some s) (h2 : getA k s.keys = none) : knownT T n k = (zeroKnown, false) := by unfold knownT; simp only [h, h2]
theorem knownT_some {T : Tab} {n k : Str} {s : TS} {x : Known} (h : getA n T = some s) (h2 : getA k s.keys = some x) : knownT T n k = (x, true) := by unfold knownT; simp only [h, h2]
theorem knownT_any (tb : Nat) (T : Tab) (n k : Str) (P : Nat → Prop) (w : World) (h : TabAt w P tb T) : Calls Tryz.prog 211 #[ptrV tb, .string n, .string k] w fun e w' => e = .returned (KnownV (knownT T n k).1 (knownT T n k).2) ∧ Below w.heap.size w w' := by
 have hb0 := (jb w.heap.size w).al (.cells #[.string ⟨#[]⟩, .int .i64 0, .int .i64 0, .int .i64 0, .int .i64 0] 49)
 have C := get_any tb T n P _ (h.ext hb0)
 have B0 := Blk.new w 49 [.string ⟨#[]⟩, .int .i64 0, .int .i64 0, .int .i64 0, .int .i64 0]
 unfold ptrV at C ⊢
 unfold GotStream at C
 clear h
 cases hg : getA n T with
 | none =>
   rw [hg] at C
   have HV := jh (show knownT T n k = (zeroKnown, false) from by unfold knownT; rw [hg])
   clear hg
   go_enter Tryz.func211, Tryz.ntmps211
   go_wp2_with fail
   refine C.mono ?_
   clear C
   rintro e w' ⟨he, rfl⟩
   have he : e = .returned (.pointer none) := he
   subst he
   go_wp2_with fail
   rw [HV.out]
   exact bodyPost_ret (results_blk_tmp rfl _ B0 rfl Tryz.underlying49 rfl (by kernel_rfl)) rfl ⟨rfl, hb0⟩
 | some ts =>
   rw [hg] at C
   have HV := jh hg
   have HB := jh B0
   clear hg B0
   go_enter Tryz.func211, Tryz.ntmps211
   go_wp2_with fail
   refine C.mono ?_
   clear C
   rintro e w' ⟨he, rfl⟩
   obtain ⟨s, rfl, hs, hi⟩ : ∃ s : SB, e = .returned (ptrV s.b) ∧ TSAt _ s ts ∧ s.In P := he
   have b1 := hs.blk.cell 1
   have HM := hs.km
   have hkg := keys_get ts.keys k
   have HFX := hs.blk.lt
   clear hs hi
   unfold ptrV
   cases hq : getA k ts.keys with
   | none =>
     rw [hq] at hkg
     have HV := jh (knownT_none HV.out hq)
     have HQ := jh hkg
     clear hq hkg
     go_wp2_with (at_lookup; refine wpList_lookup_two none strKey rfl (.tmp 21) (.tmp 22) 285 rfl Tryz.underlying285 rfl HM k rfl HQ.out _ (zero_known _) ?_; simp only [Option.getD_none, Option.isSome_none])
     rw [HV.out]
     exact bodyPost_ret (results_blk_tmp rfl _ ((Blk.new w 49 [.string ⟨#[]⟩, .int .i64 0, .int .i64 0, .int .i64 0, .int .i64 0]).alloc _) rfl Tryz.underlying49 rfl (by kernel_rfl)) rfl ⟨rfl, ((jb _ _).al _).al _⟩
   | some x =>
     rw [hq] at hkg
     have HV := jh (knownT_some HV.out hq)
     have HQ := jh hkg
     clear hq hkg
     unfold Known.val at HQ
     go_wp2_with (at_lookup; refine wpList_lookup_two (some (.agg #[.string x.key, .int .i64 x.first, .int .i64 x.stamp.wall, .int .i64 x.stamp.logic, .int .i64 x.stamp.node])) strKey rfl (.tmp 21) (.tmp 22) 285 rfl Tryz.underlying285 rfl HM k rfl HQ.out _ (zero_known _) ?_; simp only [Option.getD_some, Option.isSome_some])
     rw [HV.out]
     exact bodyPost_ret (results_blk_tmp rfl _ ((Blk.new w 49 [.string x.key, .int .i64 x.first, .int .i64 x.stamp.wall, .int .i64 x.stamp.logic, .int .i64 x.stamp.node]).alloc _) rfl Tryz.underlying49 rfl (by kernel_rfl)) rfl ⟨rfl, ((jb _ _).al _).al _⟩
theorem goesFrom_drop (l : List Event) (v : Int) (k : Nat) (h : k < l.length) : goesFrom (l.drop k) v k = (decide (l[k].version = v + 1 + k) && goesFrom (l.drop (k + 1)) v ((k + 1 : Nat) : Int)) := by
 rw [List.drop_eq_getElem_cons h]; rfl
theorem goes_any (A : Option Addr) (c : Nat) (l : List Event) (v : Int) (P : Nat → Prop) (w : World) (hr : EventR.Row w P A l) (hl : l.length ≤ 100000000) (hv : -1000000 ≤ v ∧ v ≤ 100000000) :
 Calls Tryz.prog 300 #[.slice A l.length c, .int .i64 v] w fun e w' => e = .returned (.bool (goesB l v)) ∧ Below w.heap.size w w' := by
 have HR := jh hr; clear hr
 have HL := jh hl; clear hl
 have HV := jh hv
 obtain ⟨hv1, hv2⟩ := hv
 go_enter Tryz.func300, Tryz.ntmps300
 go_wp2_with fail
 go_loopw [5, 9] (fun _ i wr => ∃ k : Nat, k ≤ l.length ∧ i = .int .i64 k ∧ goesFrom (l.drop k) v k = goesB l v ∧ Below w.heap.size w wr) (fun _ i _ => l.length - (intOf i).toNat)
 case atStart => exact ⟨0, Nat.zero_le _, rfl, rfl, jb _ _⟩
 case round =>
  obtain ⟨k, hk, rfl, hs, hbl⟩ := hrel
  have HS := jh hs; clear hs
  by_cases hlt : k < l.length
  ·have hlk := jg hlt
   have hd := goesFrom_drop l v k hlt
   generalize l[k] = x at hlk hd
   obtain ⟨b, o, cs, rfl, hP, hbw, hrep, hcs⟩ := (HR.out.ext hbl).at_ hlk
   obtain ⟨rfl, hf⟩ := event_rep.1 hrep
   unfold Event.cells at hcs
   have HD := jh hd
   have c0 := hcs 0 _ rfl; have c1 := hcs 1 _ rfl; have c2 := hcs 2 _ rfl; have c3 := hcs 3 _ rfl; have c4 := hcs 4 _ rfl; have c5 := hcs 5 _ rfl; have c6 := hcs 6 _ rfl; simp only [EventR_size, Nat.add_zero] at c0 c1 c2 c3 c4 c5 c6
   clear hd hcs hrep hlk hf
   have hlt' : (k : Int) < l.length := by omega
   have hkm : (k : Int) ≤ 100000000 := by have := HL.out; omega
   have hw1 : wrap64 (v + 1) = v + 1 := wrap_in _ (by omega)
   have hw2 : wrap64 (v + 1 + (k : Int)) = v + 1 + k := wrap_in _ (by omega)
   by_cases hx : x.version = v + 1 + k
   ·have HX := jh hx
    have g1 : (x.version == v + 1 + (k : Int)) = true := by rw [beq_iff_eq]; exact hx
    clear hx
    go_wp2_with fail
    go_round
    case rel =>
     refine ⟨k + 1, by omega, by go_num, ?_, hbl.tr (by repeat (with_reducible first | assumption | exact jb _ _ | refine Below.al ?_ _ | refine Below.drew ?_ | apply Below.st1))⟩
     have h := HS.out
     rw [HD.out, decide_eq_true HX.out, Bool.true_and] at h
     exact h
    case measure => simp [intOf]; omega
   ·have HX := jh hx
    have g1 : (x.version == v + 1 + (k : Int)) = false := by rw [beq_eq_false_iff_ne]; exact hx
    clear hx
    go_wp2_with fail
    go_ret
    refine ⟨ret_bool ?_, hbl.tr (by repeat (with_reducible first | assumption | exact jb _ _ | refine Below.al ?_ _ | refine Below.drew ?_ | apply Below.st1))⟩
    rw [← HS.out, HD.out, jd HX.out]; rfl
  ·have hkn : k = l.length := by omega
   subst hkn
   go_wp2_with fail
   go_ret
   refine ⟨ret_bool ?_, hbl⟩
   rw [← HS.out, List.drop_length]; rfl
theorem in_any (r : Range) (n : Str) (w : World) (hn : sfit n) : Calls Tryz.prog 280 #[r.val, .string n] w fun e w' => e = .returned (.bool (inR r n)) ∧ Below w.heap.size w w' := by
 have CH := fun W => hash_any n W hn
 have hbd := hash_bd n.data.toList
 change 0 ≤ hashS n ∧ hashS n < 4294967296 at hbd
 obtain ⟨h0, h1⟩ := hbd
 have HF := jh (show inR r n = (decide (r.first ≤ hashS n) && decide (hashS n ≤ r.last)) from rfl)
 rw [HF.out]
 clear HF
 unfold Range.val
 go_enter Tryz.func280, Tryz.ntmps280
 go_wp2_with fail
 refine (CH _).mono ?_
 clear CH
 rintro e w' ⟨rfl, rfl⟩
 go_wp2
 all_goals
  go_ret
  refine ⟨ret_bool ?_, by repeat (with_reducible first | assumption | exact jb _ _ | refine Below.al ?_ _ | refine Below.drew ?_ | apply Below.st1)⟩
  go_light
  rw [Bool.eq_iff_iff]
  simp at *
  omega
end Go.Proofs.YtcmjgghkmdbphaaGreatDoor
namespace Go.Proofs.YtcmjgghkmdbphaaGreatDoor
open Go.RowKit Go.Maps Go.Sort Go.Shelf
open Go.WideElems (Fit rd rg)
theorem owns_of_map {w : World} {m : Nat} {ps : List (Str × Value)} (h : MapAt strE w m ps) (hn : (ps.map (·.1)).Nodup) (hs : ∀ p ∈ ps, sfit p.1) (hl : ps.length ≤ 100000000) :
 ∃ D : DataW Unit, w.ownsMap Tryz.prog 9 (fun _ => some (.nil, [])) m ps.length D ∧ (strKeys D).Perm (ps.map fun p => p.1.data.toList) ∧ Maps.size D = ps.length := by
 obtain ⟨es, clk, hh, he, hp, hc⟩ := h
 have hlen : es.size = ps.length := pair_len he
 have hk : es.toList.map (·.key) = ps.map (fun p => Value.string p.1) := by
  have := congrArg (List.map Prod.fst) he
  simpa [List.map_map, Function.comp_def] using this
 have hread : ∀ x ∈ es.toList, ∃ s : Str, x.key = .string s ∧ sfit s := fun x hx => by
  have : x.key ∈ ps.map (fun p => Value.string p.1) := hk ▸ List.mem_map.2 ⟨x, hx, rfl⟩
  obtain ⟨p, hp, e⟩ := List.mem_map.1 this
  exact ⟨p.1, e.symm, hs p hp⟩
 have hrd : ∀ x ∈ es.toList, ∀ s : Str, x.key = .string s → sfit s → rd Tryz.prog 9 (fun _ => some ((DataW.nil : DataW Unit), ([] : List MemPlace))) x = some (.string s.data.toList, .nil) := fun x _ s e hf => by
  obtain ⟨key, val, born⟩ := x
  simp only at e
  subst e
  exact Go.WideElems.rd_mk (R := fun _ => some ((DataW.nil : DataW Unit), ([] : List MemPlace))) (val := val) (born := born) (yv := ((DataW.nil : DataW Unit), ([] : List MemPlace))) (Go.WideMaps.keyOf_string_mk Tryz.underlying9 (by unfold sfit at hf; unfold maxLen; omega)) rfl
 refine ⟨_, ⟨es, clk, hh, ⟨by rw [hlen]; unfold maxLen; omega, ⟨hc, hp.imp (fun h => Nat.ne_of_lt h), ?_⟩, fun x hx => ?_⟩, by rw [hlen]; exact Nat.le_refl _, rfl⟩, ?_, ?_⟩
 ·rw [hk]
  have : (ps.map fun p => Value.string p.1) = (ps.map (·.1)).map Value.string := by simp [List.map_map, Function.comp_def]
  rw [this]
  exact hn.map Value.string (fun a b hne e => hne (by injection e))
 ·obtain ⟨s, e, hf⟩ := hread x hx
  exact ⟨_, hrd x hx s e hf⟩
 ·have h1 : (strKeys (DataW.map ((es.toList.map (rg Tryz.prog 9 (fun _ => some ((DataW.nil : DataW Unit), ([] : List MemPlace))))).foldr DataW.insert []))).Perm ((es.toList.map (rg Tryz.prog 9 (fun _ => some ((DataW.nil : DataW Unit), ([] : List MemPlace))))).map fun p => strOf p.1) :=
   (Go.WideShapes.sorted_perm _).map _
  refine h1.trans (List.Perm.of_eq ?_)
  rw [List.map_map]
  have h2 : (ps.map fun p => p.1.data.toList) = es.toList.map fun x => (match x.key with | .string s => s.data.toList | _ => []) := by
   have := congrArg (List.map fun v : Value => match v with | .string s => s.data.toList | _ => ([] : List UInt8)) hk
   simp only [List.map_map, Function.comp_def] at this
   exact this.symm
  rw [h2]
  refine List.map_congr_left fun x hx => ?_
  obtain ⟨s, e, hf⟩ := hread x hx
  simp only [Function.comp_def, Go.WideElems.rg_of (hrd x hx s e hf), e, strOf]
 ·show (List.foldr DataW.insert [] _).length = _
  rw [length_sorted, List.length_map, Array.length_toList, hlen]
theorem sortS_enc (l : List Str) (ss : List (List UInt8)) (h : ss.Perm (l.map fun s => s.data.toList)) : (ss.mergeSort fun x y => decide (x ≤ y)).map encStr = (sortS l).map Value.string := by
 have h1 := mergeSort_of_perm h
 unfold leB at h1
 rw [h1]
 unfold sortS
 rw [← List.map_mergeSort (r := fun a b : Str => decide (a.data.toList ≤ b.data.toList)) (f := fun s : Str => s.data.toList) (fun a _ b _ => rfl), List.map_map]
 refine List.map_congr_left fun s _ => ?_
 simp [encStr]
theorem sortS_perm (l : List Str) : (sortS l).Perm l := List.mergeSort_perm _ _
theorem sortS_len (l : List Str) : (sortS l).length = l.length := (sortS_perm l).length_eq
def GotStrs (B : Nat) (l : List Str) (e : Ending) (w' : World) : Prop := ∃ v, e = .returned v ∧ StrR.Own w' B 9 (fun _ => False) v l
theorem str_plain : StrR.Plain := fun _ _ _ _ _ _ h => h
theorem sortsA (m : Nat) : AnyZ.SortsIn Tryz.prog Tryz.sortedA_ren Fence.wide m :=
 ⟨fun blk off cap ss W hH hblk hsz => callsIn_wide.2 (AnyM.slices_Sort_string Tryz.sortA blk off cap ss W hH hblk hsz),
  fun p cap W => callsIn_wide.2 (AnyM.slices_Sort_string_none Tryz.sortA p cap W)⟩
theorem keysS_any (mb : Option Nat) (W : World) : Calls Tryz.prog 308 #[.map mb] W fun e w' => e = .returned (.func (.func 322) #[] #[.pointer (some ⟨W.heap.size, 0, none⟩)]) ∧ w' = W.alloc (.cells #[.map mb] 250) :=
 callsIn_wide.1 (AnyZ.keys_in Tryz.keysS Fence.wide 5 trivial rfl mb W)
theorem sortedS_any (bx m : Nat) (ps : List (Str × Value)) (w : World) (hb : w.cell? ⟨bx, 0, none⟩ = some (.map (some m))) (h : MapAt strE w m ps) (hn : (ps.map (·.1)).Nodup) (hs : ∀ p ∈ ps, sfit p.1) (hl : ps.length ≤ 100000000) :
 Calls Tryz.prog 219 #[.func (.func 322) #[] #[.pointer (some ⟨bx, 0, none⟩)]] w fun e w' => GotStrs w.heap.size (sortS (ps.map (·.1))) e w' ∧ Below w.heap.size w w' := by
 obtain ⟨D, hD, hk, hz⟩ := owns_of_map h hn hs hl
 have hseq : SeqGives Fence.wide 2 Tryz.prog 322 #[.pointer (some ⟨bx, 0, none⟩)] encStr (fun ss => ss.Perm (strKeys D)) (Maps.size D) w :=
  AnyZ.keys_gives (ρ := Tryz.keysS_ren) { Tryz.keysS with } Fence.wide _ trivial rfl (by omega) bx m ps.length D _ (lt_of_cell hb) hb hD
 have cS := AnyZ.sorted_in Tryz.sortedA Fence.wide 5 trivial trivial trivial trivial rfl (by omega) (sortsA _) (enters_of Tryz.func282 (by kernel_rfl) rfl) 322 #[.pointer (some ⟨bx, 0, none⟩)] trivial (enters_of Tryz.func322 (by kernel_rfl) rfl) _ _ (by rw [hz]; unfold maxLen; omega) (by rw [hz]; omega) _ hseq
 refine (callsIn_wide.1 cS).mono ?_
 rintro e w' ⟨v, ss, rfl, hp, hrow, _, hb'⟩
 refine ⟨⟨v, rfl, ?_⟩, hb'⟩
 have h2 : ss.Perm ((ps.map (·.1)).map fun s : Str => s.data.toList) := by
  have := hp.trans hk
  simpa [List.map_map, Function.comp_def] using this
 rw [sortS_enc _ _ h2, h2.length_eq, List.length_map] at hrow
 have hlen := sortS_len (ps.map (·.1))
 refine ⟨_, by rw [hlen]; exact hrow, str_flat fun s hsm => ?_⟩
 have : s ∈ ps.map (·.1) := (sortS_perm _).mem_iff.1 hsm
 obtain ⟨p, hp, rfl⟩ := List.mem_map.1 this
 exact hs p hp
theorem sortedNilS_any (bx : Nat) (w : World) (hb : w.cell? ⟨bx, 0, none⟩ = some (.map none)) :
 Calls Tryz.prog 219 #[.func (.func 322) #[] #[.pointer (some ⟨bx, 0, none⟩)]] w fun e w' => GotStrs w.heap.size [] e w' ∧ Below w.heap.size w w' := by
 have hseq : SeqGives Fence.wide 2 Tryz.prog 322 #[.pointer (some ⟨bx, 0, none⟩)] encStr (fun ss : List (List UInt8) => ss = []) 0 w :=
  AnyZ.keys_gives_nil (ρ := Tryz.keysS_ren) { Tryz.keysS with } Fence.wide _ trivial rfl bx _ (lt_of_cell hb) hb
 have cS := AnyZ.sorted_in Tryz.sortedA Fence.wide 5 trivial trivial trivial trivial rfl (by omega) (sortsA _) (enters_of Tryz.func282 (by kernel_rfl) rfl) 322 #[.pointer (some ⟨bx, 0, none⟩)] trivial (enters_of Tryz.func322 (by kernel_rfl) rfl) _ 0 (Nat.zero_le _) (by omega) _ hseq
 refine (callsIn_wide.1 cS).mono ?_
 rintro e w' ⟨v, ss, rfl, rfl, hrow, hnil, hb'⟩
 obtain rfl : v = .slice none 0 0 := hnil.2 rfl
 exact ⟨⟨_, rfl, Rep.Own.nil_⟩, hb'⟩
theorem keysK_any (mb : Option Nat) (W : World) : Calls Tryz.prog 220 #[.map mb] W fun e w' => e = .returned (.func (.func 283) #[] #[.pointer (some ⟨W.heap.size, 0, none⟩)]) ∧ w' = W.alloc (.cells #[.map mb] 285) :=
 callsIn_wide.1 (AnyZ.keys_in Tryz.keysK Fence.wide 5 trivial rfl mb W)
theorem sortedK_any (bx m : Nat) (ps : List (Str × Value)) (w : World) (hb : w.cell? ⟨bx, 0, none⟩ = some (.map (some m))) (h : MapAt strE w m ps) (hn : (ps.map (·.1)).Nodup) (hs : ∀ p ∈ ps, sfit p.1) (hl : ps.length ≤ 100000000) :
 Calls Tryz.prog 219 #[.func (.func 283) #[] #[.pointer (some ⟨bx, 0, none⟩)]] w fun e w' => GotStrs w.heap.size (sortS (ps.map (·.1))) e w' ∧ Below w.heap.size w w' := by
 obtain ⟨D, hD, hk, hz⟩ := owns_of_map h hn hs hl
 have hseq : SeqGives Fence.wide 2 Tryz.prog 283 #[.pointer (some ⟨bx, 0, none⟩)] encStr (fun ss => ss.Perm (strKeys D)) (Maps.size D) w :=
  AnyZ.keys_gives (ρ := Tryz.keysK_ren) { Tryz.keysK with } Fence.wide _ trivial rfl (by omega) bx m ps.length D _ (lt_of_cell hb) hb hD
 have cS := AnyZ.sorted_in Tryz.sortedA Fence.wide 5 trivial trivial trivial trivial rfl (by omega) (sortsA _) (enters_of Tryz.func282 (by kernel_rfl) rfl) 283 #[.pointer (some ⟨bx, 0, none⟩)] trivial (enters_of Tryz.func283 (by kernel_rfl) rfl) _ _ (by rw [hz]; unfold maxLen; omega) (by rw [hz]; omega) _ hseq
 refine (callsIn_wide.1 cS).mono ?_
 rintro e w' ⟨v, ss, rfl, hp, hrow, _, hb'⟩
 refine ⟨⟨v, rfl, ?_⟩, hb'⟩
 have h2 : ss.Perm ((ps.map (·.1)).map fun s : Str => s.data.toList) := by
  have := hp.trans hk
  simpa [List.map_map, Function.comp_def] using this
 rw [sortS_enc _ _ h2, h2.length_eq, List.length_map] at hrow
 have hlen := sortS_len (ps.map (·.1))
 refine ⟨_, by rw [hlen]; exact hrow, str_flat fun s hsm => ?_⟩
 have : s ∈ ps.map (·.1) := (sortS_perm _).mem_iff.1 hsm
 obtain ⟨p, hp, rfl⟩ := List.mem_map.1 this
 exact hs p hp
theorem names_any (tb : Nat) (T : Tab) (P : Nat → Prop) (w : World) (h : TabAt w P tb T) (hl : T.length ≤ 100000000) : Calls Tryz.prog 278 #[ptrV tb] w fun e w' => GotStrs w.heap.size (sortS (T.map (·.1))) e w' ∧ Below w.heap.size w w' := by
 unfold ptrV
 obtain ⟨hp, ⟨hb, rfl⟩ | ⟨m, TA, hb, hm, hA, rfl⟩⟩ := h
 ·have b0 : w.cell? ⟨tb, 0, none⟩ = some (.map none) := hb.cell 0
  have C1 := keysS_any none w
  have C2 := sortedNilS_any w.heap.size (w.alloc (.cells #[.map none] 250)) ((Blk.new w 250 [.map none]).cell 0)
  go_enter Tryz.func278, Tryz.ntmps278
  go_wp2_with fail
  refine C1.mono ?_
  clear C1
  rintro e w1 ⟨rfl, rfl⟩
  go_wp2_with fail
  refine C2.mono ?_
  clear C2
  rintro e w2 ⟨⟨v, rfl, ho⟩, hb2⟩
  go_wp2_with fail
  go_ret
  have ho' : StrR.Own w2 w.heap.size 9 (fun _ => False) v [] := by
   obtain ⟨xs, h1, h2⟩ := ho
   exact ⟨xs, h1.base_ fun g hg => by have := (h1.lt g hg).1; simp at this; omega, h2⟩
  exact ⟨⟨v, rfl, by simpa [sortS] using ho'⟩, ((jb _ _).al _).tr hb2⟩
 ·have b0 : w.cell? ⟨tb, 0, none⟩ = some (.map (some m)) := hb.cell 0
  have C1 := keysS_any (some m) w
  have hpf : TA.ptrs.map (·.1) = TA.tab.map (·.1) := by simp [TabA.ptrs, TabA.tab]
  have C2 := sortedS_any w.heap.size m TA.ptrs (w.alloc (.cells #[.map (some m)] 250)) ((Blk.new w 250 [.map (some m)]).cell 0) (hA.map.alloc _) (by rw [hpf, tab_fst]; exact hA.nd)
   (fun p hp => by
    obtain ⟨q, hq, rfl⟩ := List.mem_map.1 hp
    exact (hA.each q hq).2.2.2) (by simpa [TabA.ptrs, TabA.tab] using hl)
  rw [hpf] at C2
  clear hA hpf
  go_enter Tryz.func278, Tryz.ntmps278
  go_wp2_with fail
  refine C1.mono ?_
  clear C1
  rintro e w1 ⟨rfl, rfl⟩
  go_wp2_with fail
  refine C2.mono ?_
  clear C2
  rintro e w2 ⟨⟨v, rfl, ho⟩, hb2⟩
  go_wp2_with fail
  go_ret
  refine ⟨⟨v, rfl, ?_⟩, ((jb _ _).al _).tr hb2⟩
  obtain ⟨xs, h1, h2⟩ := ho
  exact ⟨xs, h1.base_ fun g hg => by have := (h1.lt g hg).1; simp at this; omega, h2⟩
end Go.Proofs.YtcmjgghkmdbphaaGreatDoor
namespace Go.Proofs.YtcmjgghkmdbphaaGreatDoor
open Go.RowKit
theorem someNot_any (r : Range) (b : Nat) (s : Str) (w : World) (hs : sfit s) (hb : Blk w b 27 r.cells) : Calls Tryz.prog 279 #[.string s, .pointer (some ⟨b, 0, none⟩)] w fun e w' => e = .returned (.bool (!inR r s)) ∧ Below w.heap.size w w' := by
 have C := in_any r s w hs
 have b0 : w.cell? ⟨b, 0, none⟩ = some (.int .i64 r.first) := hb.cell 0
 have b1 : w.cell? ⟨b, 1, none⟩ = some (.int .i64 r.last) := hb.cell 1
 have b2 : w.cell? ⟨b, 2, none⟩ = some (.int .i64 r.owner) := hb.cell 2
 have b3 : w.cell? ⟨b, 3, none⟩ = some (.int .i64 r.epoch) := hb.cell 3
 unfold Range.val at C
 clear hb
 go_enter Tryz.func279, Tryz.ntmps279
 go_wp2_with fail
 refine C.mono ?_
 clear C
 rintro e w1 ⟨rfl, hb1⟩
 go_wp2_with fail
 go_ret
 exact ⟨rfl, hb1⟩
theorem TabAt.fits {w : World} {P : Nat → Prop} {tb : Nat} {T : Tab} (h : TabAt w P tb T) : ∀ p ∈ T, sfit p.1 := by
 obtain ⟨h1, ⟨hb, rfl⟩ | ⟨m, TA, hb, hm, hA, rfl⟩⟩ := h
 ·simp
 ·intro p hp
  obtain ⟨q, hq, rfl⟩ := List.mem_map.1 hp
  exact (hA.each q hq).2.2.2
theorem Rep.Own.base' {α : Type} {R : Rep α} {w : World} {base base' e : Nat} {S : Nat → Prop} {v : Value} {l : List α} (h : R.Own w base e S v l) (hb : base' ≤ base) : R.Own w base' e S v l := by
 obtain ⟨xs, h1, h2⟩ := h
 exact ⟨xs, h1.base_ fun g hg => Nat.le_trans hb (h1.lt g hg).1, h2⟩
theorem some_any (tb : Nat) (T : Tab) (r : Range) (P : Nat → Prop) (w : World) (h : TabAt w P tb T) (hl : T.length ≤ 100000000) : Calls Tryz.prog 218 #[ptrV tb, r.val] w fun e w' => GotStrs w.heap.size (someT T r) e w' ∧ Below w.heap.size w w' := by
 have hb0 := (jb w.heap.size w).al (.cells r.cells.toArray 27)
 have C := names_any tb T P (w.alloc (.cells r.cells.toArray 27)) (h.ext hb0) hl
 have B0 := Blk.new w 27 r.cells
 have HFT := jh h.fits
 have HE := jh (show someT T r = (sortS (T.map (·.1))).filter (fun s => !(!inR r s)) from by unfold someT; simp)
 unfold ptrV at C ⊢
 unfold Range.val
 unfold Range.cells at C B0 hb0
 clear h
 go_enter Tryz.func218, Tryz.ntmps218
 go_wp2_with fail
 refine C.mono ?_
 clear C
 rintro e w1 ⟨⟨v, rfl, ho⟩, hb1⟩
 have hlt := ho.lt
 have B1 := B0.ext hb1
 have hz1 := hb1.size
 simp only [World.size_alloc] at hz1 hlt
 have D := delF_any 279 [.pointer (some ⟨w.heap.size, 0, none⟩)] (fun s => !inR r s) (enters_of Tryz.func279 (by kernel_rfl) rfl) v _ _ _ w1 ho (fun s W hs hW => by
  have : s ∈ T.map (·.1) := (sortS_perm _).mem_iff.1 hs
  obtain ⟨p, hp, rfl⟩ := List.mem_map.1 this
  exact someNot_any r w.heap.size p.1 W (HFT.out p hp) (B1.only hW (fun h => by have := (hlt _ h).1; omega)))
 clear B0
 go_wp2_with fail
 refine D.mono ?_
 clear D
 rintro e w2 ⟨⟨v2, rfl, ho2⟩, hb2⟩
 go_wp2_with fail
 go_ret
 refine ⟨⟨v2, rfl, ?_⟩, (hb0.tr hb1).trans (hb2.low (fun g hg => by have := (hlt g hg).1; omega) (by omega))⟩
 rw [HE.out]
 exact ho2.base' (by simp)
theorem stream_info : (Tryz.prog.info? 199).map (fun i => (i.zero, i.size, i.bytes)) = some (some (.agg #[.string ⟨#[]⟩, .slice none 0 0, .slice none 0 0]), 3, 64) := by kernel_rfl
theorem known_info : (Tryz.prog.info? 49).map (fun i => (i.zero, i.size, i.bytes)) = some (some (.agg #[.string ⟨#[]⟩, .int .i64 0, .int .i64 0, .int .i64 0, .int .i64 0]), 5, 48) := by kernel_rfl
theorem TSAt.inlt {w : World} {s : SB} {ts : TS} (h : TSAt w s ts) : s.In (· < w.heap.size) := ⟨h.blk.lt, h.km.lt, fun g hg => (h.ev.lt g hg).2⟩
theorem someT_get {T : Tab} {r : Range} {n : Str} (h : n ∈ someT T r) : ∃ ts, getA n T = some ts := by
 have h1 : n ∈ T.map (·.1) := (sortS_perm _).mem_iff.1 (List.mem_filter.1 h).1
 cases hg : getA n T with
 | none => exact absurd h1 (getA_none.1 hg)
 | some ts => exact ⟨ts, rfl⟩
theorem Same.of_only' {P F : Nat → Prop} {w w' : World} (h : Only F w w') (hd : ∀ g, P g → g < w.heap.size → ¬ F g) : Same P w w' := fun g hp hg => h.block g hg (hd g hp hg)
structure TkD (xb : Nat) (n : Str) (ev kv : Value) (s : SB) (ts : TS) (W : World) : Prop where
 x : Blk W xb 199 [.string n, ev, kv]
 s : TSAt W s ts
theorem TkD.cell2 {xb : Nat} {n : Str} {ev kv : Value} {s : SB} {ts : TS} (d : Wd (TkD xb n ev kv s ts)) : d.w.cell? ⟨xb, 2, none⟩ = some kv := d.ok.x.cell 2
theorem TkD.km {xb : Nat} {n : Str} {ev kv : Value} {s : SB} {ts : TS} (d : Wd (TkD xb n ev kv s ts)) : d.w.cell? ⟨s.b, 1, none⟩ = some (.map (some s.km)) := d.ok.s.blk.cell 1
theorem TkD.look {xb : Nat} {n key : Str} {ev kv : Value} {s : SB} {ts : TS} {x : Known} (h : getA key ts.keys = some x) (d : Wd (TkD xb n ev kv s ts)) :
 (Instr.lookup 285 (.map (some s.km)) (.string key) false).run Tryz.prog d.w = .ok (.agg #[.string x.key, .int .i64 x.first, .int .i64 x.stamp.wall, .int .i64 x.stamp.logic, .int .i64 x.stamp.node]) d.w := by
 have := run_lookup_map strKey Tryz.underlying285 d.ok.s.km key _ (zero_known d.w) false
 rw [if_neg (by simp), keys_get, h] at this
 exact this
theorem TkD.ext {xb : Nat} {n : Str} {ev kv : Value} {s : SB} {ts : TS} {w w' : World} (h : TkD xb n ev kv s ts w) (hb : Below w.heap.size w w') : TkD xb n ev kv s ts w' := ⟨h.x.ext hb, h.s.same h.s.inlt (js hb)⟩
theorem TkD.only {xb : Nat} {n : Str} {ev kv : Value} {s : SB} {ts : TS} {w w' : World} {F : Nat → Prop} (h : TkD xb n ev kv s ts w) (hb : Only F w w') (h1 : ¬ F xb) (h2 : s.In fun g => ¬ F g) : TkD xb n ev kv s ts w' := ⟨h.x.only hb h1, h.s.same h2 (Same.of_only hb fun _ h => h)⟩
theorem take_map {α β : Type} (f : α → β) (l : List α) (k : Nat) (h : k < l.length) : (l.map f).take (k + 1) = (l.map f).take k ++ [f l[k]] := by
 rw [take_snoc _ _ (by simpa using h), List.getElem_map]
theorem take_any (tb : Nat) (T : Tab) (r : Range) (P : Nat → Prop) (w : World) (h : TabAt w P tb T) (hl : T.length ≤ 40000) (hf : ∀ p ∈ T, p.2.events.length ≤ 40000 ∧ p.2.keys.length ≤ 40000) :
 Calls Tryz.prog 125 #[ptrV tb, r.val] w fun e w' => GotOwn StreamR w.heap.size 199 (fun g => w.heap.size ≤ g) (takeT T r) e w' ∧ Below w.heap.size w w' := by
 have hb0 := (jb w.heap.size w).al (.cells r.cells.toArray 27)
 have C := some_any tb T r P (w.alloc (.cells r.cells.toArray 27)) (h.ext hb0) (by omega)
 obtain ⟨i0, hi0, hz0, hz1, hz2⟩ := info_parts stream_info
 have HI0 := jh (ja hi0 (ja hz0 (ja hz1 hz2)))
 clear hi0 hz0 hz1 hz2
 obtain ⟨i1, hi1, hk0, hk1, hk2⟩ := info_parts known_info
 have HI1 := jh (ja hi1 (ja hk0 (ja hk1 hk2)))
 clear hi1 hk0 hk1 hk2
 have HT := jh h
 have HF := jh hf
 have hsl : Hid ((someT T r).length ≤ 40000) := jh <| by
  have h1 : (someT T r).length ≤ (sortS (T.map (·.1))).length := List.length_filter_le _ _
  rw [sortS_len, List.length_map] at h1
  omega
 unfold ptrV at C ⊢
 unfold Range.val at C ⊢
 unfold Range.cells at C hb0
 clear h hf
 go_enter Tryz.func125, Tryz.ntmps125
 go_wp2_with fail
 refine C.mono ?_
 clear C
 rintro e w1 ⟨⟨v, rfl, ho⟩, hb1⟩
 have hw1 := hb0.tr hb1
 have hz1 := hb1.size
 simp only [World.size_alloc] at hz1
 obtain ⟨A, c, rfl, hc1, hc2⟩ := ho.form
 have HN := jh (ho.row' (P := fun _ => True) str_plain (fun _ _ => trivial))
 clear ho hb1 hb0
 generalize hns : someT T r = ns at *
 have HNS := jh hns
 clear hns
 have hsl' := hsl.out
 go_wp2_with fail
 go_loopw [4, 15] (fun out i wr => ∃ (k : Nat), k ≤ ns.length ∧ i = .int .i64 k ∧ StreamR.Own wr w1.heap.size 199 (fun g => w1.heap.size ≤ g) out ((takeT T r).take k) ∧ Below w1.heap.size w1 wr) (fun _ i _ => ns.length - (intOf i).toNat)
 case atStart => exact ⟨0, Nat.zero_le _, rfl, by simpa using Rep.Own.nil_, jb _ _⟩
 case round =>
  obtain ⟨k, hk, rfl, hout, hbl⟩ := hrel
  have HO := jh hout; clear hout
  by_cases hlt : k < ns.length
  ·have hlk := jg hlt
   have htk := take_map (fun n => streamOf n ((getA n T).getD ⟨[], []⟩)) ns k hlt
   obtain ⟨ts, hts⟩ := someT_get (T := T) (r := r) (by rw [HNS.out]; exact List.getElem_mem hlt : ns[k] ∈ someT T r)
   generalize ns[k] = n at hlk hts htk
   rw [hts, Option.getD_some] at htk
   have HTK := jh (show (takeT T r).take (k + 1) = (takeT T r).take k ++ [streamOf n ts] from by
    have : takeT T r = ns.map fun n => streamOf n ((getA n T).getD ⟨[], []⟩) := by rw [← HNS.out]; rfl
    rw [this]; exact htk)
   obtain ⟨bb, o, cs, rfl, hP, hbw, ⟨rfl, hsf⟩, hcs⟩ := (HN.out.ext hbl).at_ hlk
   have c0 := hcs 0 _ rfl; simp only [StrR_size, Nat.add_zero, Nat.mul_one] at c0
   obtain ⟨m, TA, htbb, hmm, hA, hTe⟩ : ∃ m TA, Blk wr tb 252 [.map (some m)] ∧ P m ∧ StrsAt wr P m TA ∧ T = TabA.tab TA := by
    obtain ⟨_, ⟨_, e⟩ | h⟩ := HT.out.ext (hw1.trans (hbl.mono hw1.size))
    ·exfalso; rw [e] at hts; cases hts
    ·exact h
   have b0 : wr.cell? ⟨tb, 0, none⟩ = some (.map (some m)) := htbb.cell 0
   have htg := tab_get TA n
   have hpg := ptrs_get TA n
   rw [← hTe, hts] at htg
   cases hq : getA n TA with
   | none => rw [hq] at htg; cases htg
   | some q =>
   obtain ⟨ts', s⟩ := q
   rw [hq] at htg hpg
   obtain rfl : ts = ts' := by injection htg
   rw [← assocOf_eq] at hpg
   have HPG := jh hpg
   have HM := hA.map
   obtain ⟨hs0, _, _, _⟩ := hA.each _ (getA_mem hq)
   simp only at hs0
   have HFT := HF.out _ (getA_mem hts)
   simp only at HFT
   obtain ⟨Ae, ce, hev, _⟩ := hs0.ev.form
   have e0 : wr.cell? ⟨s.b, 0, none⟩ = some (.slice Ae ts.events.length ce) := by rw [← hev]; exact hs0.blk.cell 0
   have hrowE := (hev ▸ hs0.ev : EventR.Own wr 0 202 (fun _ => False) (.slice Ae ts.events.length ce) ts.events).row' (P := fun _ => True) event_plain (fun _ _ => trivial)
   have CE := clone_Event Ae ce ts.events _ wr hrowE (by omega)
   have HS0 := jh hs0
   have HQ := jh (ja hts htg)
   clear hcs hlk hts htg hpg hq htk hA htbb hs0 hrowE hev hmm
   have hlt' : (k : Int) < ns.length := by omega
   go_wp2_with (first
    | (at_lookup; refine wpList_lookup_one (some (ptrV s.b)) strKey rfl (.tmp 22) (.tmp 23) 250 rfl Tryz.underlying250 rfl HM n rfl HPG.out _ (zero_sptr _) ?_; simp only [Option.getD_some, ptrV])
    | fail)
   refine CE.mono ?_
   clear CE
   rintro e w2 ⟨⟨ve, rfl, hoe⟩, hb2⟩
   have hz2 := hb2.size
   have hoe := hoe.plain (S' := fun _ => False) event_plain
   have hb3 := hb2.al (.cells #[.string n, ve, .slice none 0 0] 199)
   have hs3 := HS0.out.same HS0.out.inlt (Same.of_belowB hb3 (fun g h => h))
   have B3 := Blk.new w2 199 [.string n, ve, .slice none 0 0]
   have C1 := keysK_any (some s.km) (w2.alloc (.cells #[.string n, ve, .slice none 0 0] 199))
   have hb4 := hb3.al (.cells #[.map (some s.km)] 285)
   have hs4 := HS0.out.same HS0.out.inlt (Same.of_belowB hb4 (fun g h => h))
   have C2 := sortedK_any (w2.heap.size + 1) s.km _ ((w2.alloc (.cells #[.string n, ve, .slice none 0 0] 199)).alloc (.cells #[.map (some s.km)] 285)) ((Blk.new1 w2 _ 285 [.map (some s.km)]).cell 0) hs4.km
    (by simpa [List.map_map, Function.comp_def] using hs4.nd) (fun p hp => by obtain ⟨q, hq, rfl⟩ := List.mem_map.1 hp; exact (hs4.fit q hq).2) (by simp; omega)
   rw [show (ts.keys.map fun p => (p.1, p.2.val)).map (·.1) = ts.keys.map (·.1) from by simp [List.map_map, Function.comp_def]] at C2
   have km0 : (w2.alloc (.cells #[.string n, ve, .slice none 0 0] 199)).cell? ⟨s.b, 1, none⟩ = some (.map (some s.km)) := hs3.blk.cell 1
   clear hs3 hs4
   obtain ⟨Av, cv, rfl, _⟩ := hoe.form
   have HLE := jh (show ∀ g, (Value.slice Av ts.events.length cv).ownBlock = some g → g < w2.heap.size from fun g hg => (hoe.lt g hg).2)
   go_wp2_with fail
   refine C1.mono ?_
   clear C1
   rintro e w4 ⟨rfl, rfl⟩
   go_wp2_with fail
   refine C2.mono ?_
   clear C2
   rintro e w5 ⟨⟨vk, rfl, hok⟩, hb5⟩
   have B5 := (B3.alloc (.cells #[.map (some s.km)] 285)).ext hb5
   have hz5 := hb5.size
   simp only [World.size_alloc] at hz5 hok
   have hwr5 := hb4.tr hb5
   have hs5 := HS0.out.same HS0.out.inlt (Same.of_belowB hwr5 (fun g h => h))
   have hoe5 : EventR.Own w5 wr.heap.size 202 (fun _ => False) _ _ := hoe.ext (((jb w2.heap.size w2).al _).al _ |>.tr hb5)
   have HO5 := jh ((HO.out.mono (S' := fun g => w1.heap.size ≤ g ∧ g < wr.heap.size) (fun g h1 h2 => ⟨h1, h2⟩)).ext hwr5)
   have hltu := HO.out.lt
   obtain ⟨Ak, ck, rfl, _⟩ := hok.form
   have hklen : (sortS (ts.keys.map (·.1))).length ≤ 40000 := by rw [sortS_len, List.length_map]; omega
   have hlts := HS0.out.inlt
   have HKR := jh (hok.row' (P := fun g => w2.heap.size + 1 ≤ g) str_plain (fun g hg => by have := (hok.lt g hg).1; omega))
   have HS5 := jh (ja hs5 (ja B5 (ja hoe5 hwr5)))
   clear B3 hb3 hb4 hb5 km0 hs5 B5 hoe5 hwr5 hoe hok HM
   generalize hks : sortS (ts.keys.map (·.1)) = ks at *
   have HKS := jh hks
   clear hks
   have hkk : ∀ key ∈ ks, ∃ x, getA key ts.keys = some x := fun key hk => by
    rw [← HKS.out] at hk
    have h1 : key ∈ ts.keys.map (·.1) := (sortS_perm _).mem_iff.1 hk
    cases hg : getA key ts.keys with
    | none => exact absurd h1 (getA_none.1 hg)
    | some x => exact ⟨x, rfl⟩
   have HKK := jh hkk; clear hkk
   have hz25 : wr.heap.size ≤ w2.heap.size ∧ w2.heap.size + 2 ≤ w5.heap.size ∧ w1.heap.size ≤ wr.heap.size := ⟨hz2, by omega, hbl.size⟩
   have hlte := HLE.out
   have hwr1 : Below w1.heap.size w1 w5 := hbl.trans (HS5.out.2.2.2.mono hbl.size)
   have hbe5 : EventR.Own w5 wr.heap.size 202 (fun _ => False) (.slice Av ts.events.length cv) ts.events := HS5.out.2.2.1
   have HS5' := jh (ja HS5.out.1 HS5.out.2.1)
   clear HS5 hz2 hbl HS0 HPG b0 e0 hbw hb2
   generalize wr.heap.size = z0 at *
   have HOE := jh (ja hbe5 hlte)
   clear hbe5 hlte
   go_wp2_with fail
   go_loopw [39] (fun j wq => ∃ (i : Nat) (kv : Value), i ≤ ks.length ∧ j = .int .i64 i ∧ Blk wq w2.heap.size 199 [.string n, .slice Av ts.events.length cv, kv] ∧ KnownR.Own wq w5.heap.size 49 (fun _ => False) kv ((ks.map fun k => (getA k ts.keys).getD zeroKnown).take i) ∧ Only (fun g => g = w2.heap.size ∨ w5.heap.size ≤ g) w5 wq) (fun j _ => ks.length - (intOf j).toNat)
   case atStart => exact ⟨0, _, Nat.zero_le _, rfl, HS5'.out.2, by simpa using Rep.Own.nil_, Only.refl _ _⟩
   case round =>
    obtain ⟨i, kv, hik, rfl, hBx, hkv, hq⟩ := hrel
    have hTS := HS5'.out.1.same hlts (Same.of_only' hq (fun g hg _ h => by rcases h with h | h <;> omega))
    by_cases hit : i < ks.length
    ·have hli := jg hit
     have htk := take_map (fun k => (getA k ts.keys).getD zeroKnown) ks i hit
     obtain ⟨x, hx⟩ := HKK.out _ (List.getElem_mem hit)
     generalize ks[i] = key at hli htk hx
     rw [hx, Option.getD_some] at htk
     obtain ⟨kb, ko, cs, rfl, _, _, ⟨rfl, hsk⟩, hcs⟩ := (HKR.out.same (Same.of_only' hq (fun g hg hl h => by rcases h with h | h <;> omega)) hq.size).at_ hli
     have c0 := hcs 0 _ rfl; simp only [StrR_size, Nat.add_zero, Nat.mul_one] at c0
     have HX := jh (ja htk hx)
     have LK := TkD.look (xb := w2.heap.size) (n := n) (ev := .slice Av ts.events.length cv) (kv := kv) (s := s) hx
     have hD : TkD w2.heap.size n (.slice Av ts.events.length cv) kv s ts wr := ⟨hBx, hTS⟩
     have hit' : (i : Int) < ks.length := by omega
     clear hcs hli htk hx
     have HH := jh (ja hBx (ja hTS (ja hkv hq)))
     clear hBx hTS hkv hq
     go_upto_region 9 with fail
     clear c0
     haveI : Nonempty (Wd (TkD w2.heap.size n (.slice Av ts.events.length cv) kv s ts)) := ⟨⟨wr, hD⟩⟩
     have y2 := TkD.cell2 (xb := w2.heap.size) (n := n) (ev := .slice Av ts.events.length cv) (kv := kv) (s := s) (ts := ts)
     have y1 := TkD.km (xb := w2.heap.size) (n := n) (ev := .slice Av ts.events.length cv) (kv := kv) (s := s) (ts := ts)
     refine wp_region_mix (.seg [0, 1, 2, 3, 4, 5, 6, 7] 8 (.seg [] 9 (.last [10] 11))) (fun w' => ∃ d : Wd (TkD w2.heap.size n (.slice Av ts.events.length cv) kv s ts), w' = d.w) (by kernel_rfl) (by kernel_rfl) (fun _ _ d _ _ h => by cases d <;> exact h) (ClsW.mk (D := TkD w2.heap.size n (.slice Av ts.events.length cv) kv s ts) (hD.ext (jb _ _).drew)) ?_
     unfold wpMix; simp only [pick, j1, j2, j3, j4]
     (repeat (show wpQuiet _ _ _ _ (_ :: _) _; go_big_quiet_step (fail))); refine qn ?_
     go_wp2_with fail
     have hD1 : TkD w2.heap.size n (.slice Av ts.events.length cv) kv s ts (wr.drew.alloc (.cells #[.string x.key, .int .i64 x.first, .int .i64 x.stamp.wall, .int .i64 x.stamp.logic, .int .i64 x.stamp.node] 49)) := hD.ext (((jb _ wr).drew).al _)
     dsimp only [wpList, SegQ]
     refine ⟨fun w' => ∃ d : Wd (TkD w2.heap.size n (.slice Av ts.events.length cv) kv s ts), w' = d.w, ClsW.mk (D := TkD w2.heap.size n (.slice Av ts.events.length cv) kv s ts) hD1, fun _ h => h, ?_⟩
     unfold wpMix; simp only [pick, j1, j2, j3, j4]
     (repeat (show wpQuiet _ _ _ _ (_ :: _) _; go_big_quiet_step (fail))); refine qn ?_
     obtain ⟨hBx, hTS, hkv, hq⟩ := HH.out
     have hxf : x.fit := (hTS.fit _ (getA_mem HX.out.2)).1
     have hxk : KnownR.rep wr (fun _ => False) x.cells x := known_rep.2 ⟨rfl, hxf⟩
     obtain ⟨e1, e2, e3, e4⟩ := HI1.out
     have hwsz : w5.heap.size ≤ wr.heap.size := hq.size
     have hltv := hkv.lt
     have hkl : ((ks.map fun k => (getA k ts.keys).getD zeroKnown).take i).length ≤ 40000 := by rw [List.length_take, List.length_map]; omega
     have hrx : KnownR.Row (wr.alloc (.cells x.cells.toArray 49)).drew (fun g => g = wr.heap.size) (some ⟨wr.heap.size, 0, none⟩) [x] := ((Rep.Row.new1 (t := 49) hxk).mono (fun g h _ => h.elim False.elim id)).ext (jb _ _).drew
     have hkv' := ((hkv.plain (S' := fun _ => True) known_plain).alloc (.cells x.cells.toArray 49)).ext (jb _ _).drew
     have hszx : (wr.alloc (.cells x.cells.toArray 49)).drew.heap.size = wr.heap.size + 1 := by show (wr.alloc _).heap.size = _; simp
     refine wpList_append_rep (R := KnownR) (wr.alloc (.cells x.cells.toArray 49)).drew rfl (.tmp 44) (.tmp 51) _ rfl w5.heap.size 49 i1 _ 48 Tryz.underlying197 e1 e2 e3 e4 rfl kv _ (fun _ => True) rfl hkv' _ (some ⟨wr.heap.size, 0, none⟩) 1 [x] rfl hrx (fun g hg hl => ⟨trivial, fun h => by have := (hltv g h.symm).2; omega⟩) (by simp only [List.length_cons, List.length_nil]; unfold maxLen; omega) (by simp only [List.length_cons, List.length_nil]; omega) (by omega) ?_
     intro v1 w6 ho1 hg1 hat1 _ hb1
     obtain ⟨A1, c1, he1, _⟩ := ho1.form
     rw [show ((ks.map fun k => (getA k ts.keys).getD zeroKnown).take i ++ [x]).length = i + 1 from by simp; omega] at he1
     subst he1
     go_simp
     have hD6 : TkD w2.heap.size n (.slice Av ts.events.length cv) kv s ts w6 := hD1.only (Only.grown hg1 (F := fun g => w5.heap.size ≤ g) (fun g hg => (hltv g hg).1)) (by omega) ⟨by have := hlts.b; omega, by have := hlts.km; omega, fun g hg => by have := hlts.ev g hg; omega⟩
     dsimp only [wpList, SegQ]
     refine ⟨fun w' => ∃ d : Wd (TkD w2.heap.size n (.slice Av ts.events.length cv) kv s ts), w' = d.w, ClsW.mk (D := TkD w2.heap.size n (.slice Av ts.events.length cv) kv s ts) hD6, fun _ h => h, ?_⟩
     unfold wpMix; simp only [pick, j1, j2, j3, j4]
     (repeat (show wpQuiet _ _ _ _ (_ :: _) _; go_big_quiet_step (fail))); refine qn ?_
     have y2' : w6.cell? ⟨w2.heap.size, 2, none⟩ = some kv := hD6.x.cell 2
     have f2 : w6.frozen? ⟨w2.heap.size, 2, none⟩ = false := hD6.x.frozen 2
     have hz6 := hb1.size
     have hq6 : Only (fun g => g = w2.heap.size ∨ w5.heap.size ≤ g) w5 w6 := (hq.tr ((jo ((jb _ wr).al _)).tr (jo (jb _ _).drew))).trans (Only.grown hg1 (F := fun g => w5.heap.size ≤ g) (fun g hg => (hltv g hg).1)) (fun g _ h => .inr h)
     have hne1 : ∀ g, (Value.slice A1 (i + 1) c1).ownBlock = some g → g ≠ w2.heap.size := fun g hg => by
      have := (ho1.lt g hg).1; omega
     have ho7 : KnownR.Own (w6.setCell ⟨w2.heap.size, 2, none⟩ (.slice A1 (i + 1) c1)) w5.heap.size 49 (fun _ => False) (.slice A1 (i + 1) c1) ((ks.map fun k => (getA k ts.keys).getD zeroKnown).take i ++ [x]) :=
      (ho1.plain (S' := fun _ => False) known_plain).only (F := fun g => g = w2.heap.size) (Only.set_ (F := fun g => g = w2.heap.size) (p := ⟨w2.heap.size, 2, none⟩) rfl _) (fun _ h => h.elim) (fun g hg h => hne1 g hg h)
     have HH2 := jh (ja (hD6.x.set_ 2 (.slice A1 (i + 1) c1)) (ja ho7 (hq6.tr (Only.set_ (p := ⟨w2.heap.size, 2, none⟩) (.inl rfl) (.slice A1 (i + 1) c1)))))
     clear hBx hTS hkv hq hxf hxk e1 e2 e3 e4 hltv hkl hrx hkv' hszx ho1 hg1 hat1 hb1 hD1 hD6 hz6 hq6 hne1 ho7 LK y1 hD
     go_wp2_with fail
     try dsimp only [wpList, SegQ, Exit.then, Exit.inBlock]
     go_at_K
     go_wp2_with fail
     go_round
     case rel =>
      refine ⟨i + 1, _, by omega, by go_num, HH2.out.1, ?_, HH2.out.2.2⟩
      rw [HX.out.1]
      exact HH2.out.2.1
     case measure => simp [intOf]; omega
    ·have hin : i = ks.length := by omega
     subst hin
     rw [List.take_of_length_le (by simp)] at hkv
     obtain ⟨A1, c1, he1, hc1', hc2'⟩ := hkv.form
     rw [List.length_map] at he1 hc1'
     subst he1
     have x0 : wr.cell? ⟨w2.heap.size, 0, none⟩ = some (.string n) := hBx.cell 0
     have x1 : wr.cell? ⟨w2.heap.size, 1, none⟩ = some (.slice Av ts.events.length cv) := hBx.cell 1
     have x2 : wr.cell? ⟨w2.heap.size, 2, none⟩ = some (.slice A1 ks.length c1) := hBx.cell 2
     have hou : StreamR.Own wr w1.heap.size 199 (fun g => w1.heap.size ≤ g) u4 ((takeT T r).take k) := (HO5.out.only hq (fun g hg h => by rcases h with h | h <;> omega) (fun g hg h => by have := (hltu g hg).2; rcases h with h | h <;> omega)).mono (fun g hg _ => hg.1)
     have hoe : EventR.Own wr z0 202 (fun _ => False) (.slice Av ts.events.length cv) ts.events := HOE.out.1.only hq (fun _ h => h.elim) (fun g hg h => by
      have := HOE.out.2 g hg; rcases h with h | h <;> omega)
     have hrs : StreamR.rep wr (fun g => z0 ≤ g) [.string n, .slice Av ts.events.length cv, .slice A1 ks.length c1] (streamOf n ts) := by
      obtain ⟨_, _, he, hca, hcb⟩ := hoe.form
      injection he with _ _ he; subst he
      refine stream_rep.2 ⟨Av, cv, A1, c1, ?_, hsf, hca, hcb, hoe.row' event_plain (fun g hg => (hoe.lt g hg).1), ?_⟩
      ·unfold streamOf; rw [HKS.out, List.length_map]
      ·unfold streamOf; rw [HKS.out, List.length_map]; exact ⟨hc1', hc2', hkv.row' known_plain (fun g hg => by have := (hkv.lt g hg).1; omega)⟩
     obtain ⟨e1, e2, e3, e4⟩ := HI0.out
     have hkl : ((takeT T r).take k).length ≤ 40000 := by rw [List.length_take]; omega
     have HIL := jh hkl
     have hwsz : w1.heap.size ≤ wr.heap.size := by have := hq.size; omega
     have HQQ := jh (ja hq hwr1)
     clear hq hwr1 hBx hTS hkv
     go_wp2_with (at_builtin; refine wpList_append_new (R := StreamR) wr rfl (.tmp 55) (.tmp 57) _ rfl w1.heap.size 199 i0 _ 64 Tryz.underlying44 e1 e2 e3 e4 rfl u4 _ (fun g => w1.heap.size ≤ g) rfl hou (fun _ h => h) rfl (fun g => z0 ≤ g) (streamOf n ts) hrs (fun g hg hl => ⟨by omega, fun h => by have := (hltu g h.symm).2; omega⟩) (by unfold maxLen; omega) (by omega) hwsz ?_; intro v1 w6 ho1 hg1 hat1 hn1 hb1)
     go_round
     case rel =>
      refine ⟨k + 1, by omega, by go_num, by rw [HTK.out]; exact ho1, ?_⟩
      exact (HQQ.out.2.trans (HQQ.out.1.low (fun g hg => by rcases hg with h | h <;> omega) (by omega))).trans hb1
     case measure => simp [intOf]; omega
  ·have hkn : k = ns.length := by omega
   subst hkn
   go_wp2_with fail
   go_ret
   have h1 := HO.out
   rw [List.take_of_length_le (by rw [← HNS.out]; unfold takeT; simp)] at h1
   exact ⟨⟨_, rfl, (h1.mono (fun g hg _ => Nat.le_trans hw1.size hg)).base' hw1.size⟩, hw1.trans (hbl.mono hw1.size)⟩
end Go.Proofs.YtcmjgghkmdbphaaGreatDoor
