/- the ring: split, set, laid around (plain law). The reference's ring: SoundRing and Find of a sound ring. Ranging over a map within a range over a function: the laws of Mf for fenced goals. maps.Keys at transactions: the iterator. slices.Collect at transactions. The keys of a map at transactions, collected. Txs as keys of maps; with, without. state: busy of a state that holds nothing; known. -/
import Derived.Test.YtcmjgghkmdbphaaGreatDoorO13
import Derived.Test.YtcmjgghkmdbphaaGreatDoorO02
import Derived.Test.YtcmjgghkmdbphaaGreatDoorO08
import Derived.Sort.MapsRangeIn
import Derived.RangeFuncGives
import Derived.WalkKit
import Derived.OwnWalkIn
import Derived.TacticsInMore
import Derived.RegionIn
import Derived.LoopNIn
import Derived.LoopIn
import Derived.Shelf.SlIter.Collect
import Derived.Test.YtcmjgghkmdbphaaGreatDoorO09
import Derived.Test.YtcmjgghkmdbphaaGreatDoorO07
import Derived.Shelf.SlMaps.Clone
import Derived.Test.YtcmjgghkmdbphaaGreatDoorO11
import Derived.Test.YtcmjgghkmdbphaaGreatDoorO04
set_option maxRecDepth 20000
set_option maxHeartbeats 25600000
namespace Go.Proofs.YtcmjgghkmdbphaaGreatDoor
open Go.RowKit
theorem idxI_spec {α : Type} (p : α → Bool) (l : List α) : (idxI p l = -1 ∧ ∀ a ∈ l, p a = false) ∨ ∃ a x b, l = a ++ x :: b ∧ (∀ y ∈ a, p y = false) ∧ p x = true ∧ idxI p l = a.length := by
 unfold idxI
 cases h : l.findIdx? p with
 | none => exact .inl ⟨rfl, by rw [List.findIdx?_eq_none_iff] at h; exact h⟩
 | some i =>
   right
   rw [List.findIdx?_eq_some_iff_getElem] at h
   obtain ⟨hi, hp, hb⟩ := h
   refine ⟨l.take i, l[i], l.drop (i + 1), ?_, ?_, hp, ?_⟩
   ·rw [← List.drop_eq_getElem_cons hi, List.take_append_drop]
   ·intro y hy
    obtain ⟨j, hj, rfl⟩ := List.getElem_of_mem hy
    rw [List.length_take] at hj
    rw [List.getElem_take]
    have := hb j (by omega)
    simpa using this
   ·rw [List.length_take]; simp only [Int.natCast_inj]; omega
theorem has_iff {r : Range} {h : Int} : r.has h = true ↔ r.first ≤ h ∧ h ≤ r.last := by
 simp only [Range.has, Bool.and_eq_true, decide_eq_true_eq]
theorem ownedB_iff {r : Range} : ownedB r = true ↔ 1 ≤ r.owner ∧ r.owner ≤ 5 ∧ 1 ≤ r.epoch ∧ r.epoch ≤ 1099511627776 := by
 simp only [ownedB, Bool.and_eq_true, decide_eq_true_eq]
theorem soundF_cons {r : Range} {l : List Range} {n m : Int} : soundFrom (r :: l) n = some m ↔ (r.first = n ∧ n ≤ r.last ∧ r.last ≤ 4294967295 ∧ ownedB r = true) ∧ soundFrom l (r.last + 1) = some m := by
 simp only [soundFrom]
 by_cases h : r.first = n ∧ n ≤ r.last ∧ r.last ≤ 4294967295 ∧ ownedB r = true
 ·rw [if_pos h]; simp [h]
 ·rw [if_neg h]
  constructor
  ·intro q; cases q
  ·intro q; exact (h q.1).elim
theorem soundFrom_app {a b : List Range} {n m : Int} : soundFrom (a ++ b) n = some m ↔ ∃ k, soundFrom a n = some k ∧ soundFrom b k = some m := by
 induction a generalizing n with
 | nil => simp [soundFrom]
 | cons r a ih =>
   rw [List.cons_append, soundF_cons, ih]
   constructor
   ·rintro ⟨h, k, h1, h2⟩; exact ⟨k, soundF_cons.2 ⟨h, h1⟩, h2⟩
   ·rintro ⟨k, h1, h2⟩; rw [soundF_cons] at h1; exact ⟨h1.1, k, h1.2, h2⟩
theorem soundFrom_le {l : List Range} {n m : Int} (h : soundFrom l n = some m) : n ≤ m := by
 induction l generalizing n with
 | nil => simp [soundFrom] at h; omega
 | cons r l ih => rw [soundF_cons] at h; have := ih h.2; omega
theorem soundFrom_mem {l : List Range} {n m : Int} (h : soundFrom l n = some m) {x : Range} (hx : x ∈ l) : n ≤ x.first ∧ x.first ≤ x.last ∧ x.last < m ∧ x.last ≤ 4294967295 ∧ ownedB x = true := by
 induction l generalizing n with
 | nil => cases hx
 | cons r l ih =>
   rw [soundF_cons] at h
   rcases List.mem_cons.1 hx with rfl | hx
   ·have := soundFrom_le h.2; exact ⟨by omega, by omega, by omega, by omega, h.1.2.2.2⟩
   ·have := ih h.2 hx; exact ⟨by omega, by omega, by omega, by omega, this.2.2.2.2⟩
theorem soundFrom_cover {l : List Range} {n m : Int} (h : soundFrom l n = some m) {k : Int} (h1 : n ≤ k) (h2 : k < m) : ∃ x ∈ l, x.has k = true := by
 induction l generalizing n with
 | nil => simp [soundFrom] at h; omega
 | cons r l ih =>
   rw [soundF_cons] at h
   by_cases hk : k ≤ r.last
   ·exact ⟨r, by simp, has_iff.2 ⟨by omega, hk⟩⟩
   ·obtain ⟨x, hx, h3⟩ := ih h.2 (by omega)
    exact ⟨x, by simp [hx], h3⟩
theorem soundFrom_uniq {l : List Range} {n m : Int} (h : soundFrom l n = some m) {x y : Range} (hx : x ∈ l) (hy : y ∈ l) {k : Int} (h1 : x.has k = true) (h2 : y.has k = true) : x = y := by
 rw [has_iff] at h1 h2
 induction l generalizing n with
 | nil => cases hx
 | cons r l ih =>
   rw [soundF_cons] at h
   rcases List.mem_cons.1 hx with ex | hx' <;> rcases List.mem_cons.1 hy with ey | hy'
   ·rw [ex, ey]
   ·have := soundFrom_mem h.2 hy'; subst ex; omega
   ·have := soundFrom_mem h.2 hx'; subst ey; omega
   ·exact ih h.2 hx' hy'
theorem sound_iff {l : List Range} : soundR l = true ↔ soundFrom l 0 = some 4294967296 ∧ l.length ≤ 64 := by
 simp only [soundR, Bool.and_eq_true, decide_eq_true_eq]
theorem at_spec {l : List Range} (hs : soundR l = true) {h : Int} (h0 : 0 ≤ h) (h1 : h < 4294967296) : ∃ a x b, l = a ++ x :: b ∧ x.has h = true ∧ atR l h = a.length ∧ findR l h = (x, true) := by
 obtain ⟨x, hx, hh⟩ := soundFrom_cover (sound_iff.1 hs).1 h0 h1
 have ha : atR l h = idxI (fun r => r.has h) l := by unfold atR; rw [if_pos hs]
 rcases idxI_spec (fun r : Range => r.has h) l with ⟨_, hn⟩ | ⟨a, y, b, hl, _, hy, hi⟩
 ·rw [hn x hx] at hh; cases hh
 ·refine ⟨a, y, b, hl, hy, by rw [ha, hi], ?_⟩
  unfold findR
  rw [ha, hi, if_neg (by omega), hl]
  simp
theorem find_eq {l : List Range} (hs : soundR l = true) {h : Int} (h0 : 0 ≤ h) (h1 : h < 4294967296) {x : Range} (hx : x ∈ l) (hh : x.has h = true) : findR l h = (x, true) := by
 obtain ⟨a, y, b, hl, hy, _, hf⟩ := at_spec hs h0 h1
 rw [hf, soundFrom_uniq (sound_iff.1 hs).1 hx (by rw [hl]; simp) hh hy]
theorem find_mem {l : List Range} {h : Int} (hf : (findR l h).2 = true) : (findR l h).1 ∈ l ∧ (findR l h).1.has h = true ∧ soundR l = true := by
 unfold findR at hf ⊢
 split at hf
 ·cases hf
 ·rename_i hn
  rw [if_neg hn]
  unfold atR at hn ⊢
  split at hn
  ·rename_i hs
   rw [if_pos hs]
   rcases idxI_spec (fun r : Range => r.has h) l with ⟨hi, _⟩ | ⟨a, y, b, hl, _, hy, hi⟩
   ·omega
   ·rw [hi]
    have hg : l.getD ((a.length : Int)).toNat zeroRange = y := by rw [hl]; simp
    simp only [hg]
    exact ⟨by rw [hl]; simp, hy, hs⟩
  ·omega
theorem at_nonneg {l : List Range} {h : Int} (hn : ¬ atR l h < 0) : ∃ a x b, l = a ++ x :: b ∧ x.has h = true ∧ atR l h = a.length ∧ soundR l = true := by
 unfold atR at hn ⊢
 split at hn
 ·rename_i hs
  rw [if_pos hs]
  rcases idxI_spec (fun r : Range => r.has h) l with ⟨hi, _⟩ | ⟨a, y, b, hl, _, hy, hi⟩
  ·omega
  ·exact ⟨a, y, b, hl, hy, hi, hs⟩
 ·omega
theorem split_spec {l : List Range} {h : Int} (hz : (splitR l h).2 = 0) : ∃ a x b, l = a ++ x :: b ∧ x.has h = true ∧ x.first ≠ h ∧ (splitR l h).1 = a ++ [{ x with last := h - 1, epoch := x.epoch + 1 }, { x with first := h, epoch := x.epoch + 1 }] ++ b ∧ soundR (splitR l h).1 = true ∧ soundR l = true := by
 by_cases hc : atR l h < 0 ∨ (l.getD (atR l h).toNat zeroRange).first = h ∨ (l.getD (atR l h).toNat zeroRange).epoch = 1099511627776
 ·unfold splitR at hz; simp only [if_pos hc] at hz; cases hz
 ·by_cases hc2 : 64 ≤ l.length
  ·unfold splitR at hz; simp only [if_neg hc, if_pos hc2] at hz; cases hz
  ·have he : splitR l h = (l.take (atR l h).toNat ++ ([{ l.getD (atR l h).toNat zeroRange with last := h - 1, epoch := (l.getD (atR l h).toNat zeroRange).epoch + 1 }, { l.getD (atR l h).toNat zeroRange with first := h, epoch := (l.getD (atR l h).toNat zeroRange).epoch + 1 }] ++ l.drop ((atR l h).toNat + 1)), 0) := by
    unfold splitR; simp only [if_neg hc, if_neg hc2]
   simp only [not_or] at hc
   obtain ⟨a, x, b, hl, hx, hi, hs⟩ := at_nonneg hc.1
   rw [he]
   rw [hi] at hc ⊢
   have hg : l.getD ((a.length : Int)).toNat zeroRange = x := by rw [hl]; simp
   rw [hg] at hc ⊢
   have ht : l.take (a.length : Int).toNat = a := by rw [hl]; simp
   have hd : l.drop ((a.length : Int).toNat + 1) = b := by rw [hl]; simp
   rw [ht, hd]
   have hS := sound_iff.1 hs
   refine ⟨a, x, b, hl, hx, hc.2.1, by simp, ?_, hs⟩
   rw [sound_iff]
   obtain ⟨h1, h2⟩ := hS
   rw [hl] at h1 hc2
   rw [soundFrom_app] at h1
   obtain ⟨k, h3, h4⟩ := h1
   rw [soundF_cons] at h4
   rw [has_iff] at hx
   have ho := ownedB_iff.1 h4.1.2.2.2
   refine ⟨soundFrom_app.2 ⟨k, h3, ?_⟩, by simp at hc2 ⊢; omega⟩
   show soundFrom (_ :: _ :: b) k = _
   rw [soundF_cons, soundF_cons]
   refine ⟨⟨h4.1.1, ?_, ?_, ownedB_iff.2 ⟨ho.1, ho.2.1, ?_, ?_⟩⟩, ⟨?_, ?_, h4.1.2.2.1, ownedB_iff.2 ⟨ho.1, ho.2.1, ?_, ?_⟩⟩, h4.2⟩ <;> simp only [] <;> omega
theorem set_spec {l : List Range} {r : Range} (hz : (setR l r).2 = 0) : ∃ a x b, l = a ++ x :: b ∧ x.first = r.first ∧ x.last = r.last ∧ (setR l r).1 = a ++ r :: b ∧ soundR (setR l r).1 = true ∧ soundR l = true ∧ ownedB r = true := by
 unfold setR at hz ⊢
 by_cases hs : soundR l = false
 ·simp only [hs] at hz; simp at hz
 ·simp only [if_neg hs] at hz ⊢
  by_cases hc : atR l r.first < 0 ∨ (l.getD (atR l r.first).toNat zeroRange).first ≠ r.first ∨ (l.getD (atR l r.first).toNat zeroRange).last ≠ r.last
  ·simp only [if_pos hc] at hz; cases hz
  ·simp only [if_neg hc] at hz ⊢
   by_cases ho : ownedB r = false
   ·simp only [if_pos ho] at hz; cases hz
   ·simp only [if_neg ho] at hz ⊢
    simp only [not_or, Decidable.not_not] at hc
    obtain ⟨a, x, b, hl, hx, hi, hs'⟩ := at_nonneg hc.1
    rw [hi] at hc ⊢
    have hg : l.getD ((a.length : Int)).toNat zeroRange = x := by rw [hl]; simp
    rw [hg] at hc
    have hset : l.set (a.length : Int).toNat r = a ++ r :: b := by rw [hl]; simp
    rw [hset]
    refine ⟨a, x, b, hl, hc.2.1, hc.2.2, rfl, ?_, hs', by simpa using ho⟩
    obtain ⟨h1, h2⟩ := sound_iff.1 hs'
    rw [hl] at h1 h2
    rw [soundFrom_app] at h1
    obtain ⟨k, h3, h4⟩ := h1
    rw [soundF_cons] at h4
    rw [sound_iff]
    refine ⟨soundFrom_app.2 ⟨k, h3, soundF_cons.2 ⟨⟨by omega, by omega, by omega, by simpa using ho⟩, ?_⟩⟩, by simpa using h2⟩
    rw [← hc.2.2]; exact h4.2
def posR (r : Range) (n : Int) : Int := if r.first < n then max n (r.last + 1) else n
theorem around_sound {r : Range} (hr : r.first ≤ r.last) (hm : r.last ≤ 4294967295) (ho : ownedB r = true) : ∀ (l : List Range) (n m : Int), soundFrom l n = some m → soundFrom (aroundR l r) (posR r n) = some (posR r m)
 | [], n, m, h => by simp [soundFrom] at h; subst h; rfl
 | x :: l, n, m, h => by
   rw [soundF_cons] at h
   obtain ⟨⟨h1, h2, h3, h4⟩, h5⟩ := h
   have ih := around_sound hr hm ho l _ _ h5
   have hxo : ∀ a b, ownedB { x with first := a, last := b } = true := fun a b => h4
   show soundFrom (aroundX r x ++ aroundR l r) _ = _
   rw [soundFrom_app]
   refine ⟨posR r (x.last + 1), ?_, ih⟩
   unfold aroundX posR
   dsimp only
   by_cases c1 : r.first < n
   ·rw [if_pos c1, if_neg (show ¬ x.first ≤ min x.last (r.first - 1) by omega), if_neg (show ¬ (x.first ≤ r.first ∧ r.first ≤ x.last) by omega), if_pos (show r.first < x.last + 1 by omega)]
    simp only [List.nil_append]
    by_cases c2 : max x.first (r.last + 1) ≤ x.last
    ·rw [if_pos c2, soundF_cons]
     exact ⟨⟨by show max x.first _ = _; omega, by show _ ≤ x.last; omega, h3, h4⟩, by simp only [soundFrom, Option.some.injEq]; omega⟩
    ·rw [if_neg c2]; simp only [soundFrom, Option.some.injEq]; omega
   ·rw [if_neg c1]
    by_cases c2 : r.first ≤ x.last
    ·rw [if_pos (by omega : r.first < x.last + 1), if_pos (⟨by omega, c2⟩ : x.first ≤ r.first ∧ r.first ≤ x.last)]
     have hmid : ∀ q, soundFrom q (r.last + 1) = some (max (x.last + 1) (r.last + 1)) → soundFrom ([r] ++ q) r.first = some (max (x.last + 1) (r.last + 1)) := fun q hq => by
      show soundFrom (r :: q) _ = _
      rw [soundF_cons]; exact ⟨⟨rfl, hr, hm, ho⟩, hq⟩
     have hhigh : soundFrom (if max x.first (r.last + 1) ≤ x.last then [{ x with first := max x.first (r.last + 1) }] else []) (r.last + 1) = some (max (x.last + 1) (r.last + 1)) := by
      by_cases c3 : max x.first (r.last + 1) ≤ x.last
      ·rw [if_pos c3, soundF_cons]
       exact ⟨⟨by show max x.first _ = _; omega, by show _ ≤ x.last; omega, h3, h4⟩, by simp only [soundFrom, Option.some.injEq]; omega⟩
      ·rw [if_neg c3]; simp only [soundFrom, Option.some.injEq]; omega
     by_cases c3 : x.first ≤ min x.last (r.first - 1)
     ·rw [if_pos c3]
      show soundFrom (_ :: ([r] ++ _)) n = _
      rw [soundF_cons]
      refine ⟨⟨h1, by show n ≤ min x.last _; omega, by show min x.last _ ≤ _; omega, h4⟩, ?_⟩
      rw [show (min x.last (r.first - 1)) + 1 = r.first by omega]
      exact hmid _ hhigh
     ·rw [if_neg c3, List.nil_append, show n = r.first by omega]
      exact hmid _ hhigh
    ·rw [if_neg (by omega : ¬ r.first < x.last + 1), if_pos (by omega : x.first ≤ min x.last (r.first - 1)), if_neg (fun q : x.first ≤ r.first ∧ r.first ≤ x.last => c2 q.2), if_neg (show ¬ max x.first (r.last + 1) ≤ x.last by omega)]
     show soundFrom (_ :: []) n = _
     rw [soundF_cons]
     exact ⟨⟨h1, by show n ≤ min x.last _; omega, by show min x.last _ ≤ _; omega, h4⟩, by simp only [soundFrom, Option.some.injEq]; show min x.last _ + 1 = _; omega⟩
theorem around_ok {l : List Range} {r : Range} (hs : soundR l = true) (h0 : 0 ≤ r.first) (hr : r.first ≤ r.last) (hm : r.last ≤ 4294967295) (ho : ownedB r = true) (hl : (aroundR l r).length ≤ 64) : soundR (aroundR l r) = true := by
 rw [sound_iff]
 have := around_sound hr hm ho l _ _ (sound_iff.1 hs).1
 rw [show posR r 0 = 0 by unfold posR; rw [if_neg (by omega)], show posR r 4294967296 = 4294967296 by unfold posR; rw [if_pos (by omega)]; omega] at this
 exact ⟨this, hl⟩
theorem around_out {l : List Range} {r x : Range} {h : Int} (hx : x ∈ l) (hh : x.has h = true) (hr : r.has h = false) : ∃ y ∈ aroundR l r, y.has h = true ∧ y.owner = x.owner ∧ y.epoch = x.epoch := by
 have hn : ¬ (r.first ≤ h ∧ h ≤ r.last) := fun q => by rw [has_iff.2 q] at hr; cases hr
 rw [has_iff] at hh
 have hin : ∀ y, y ∈ aroundX r x → y ∈ aroundR l r := fun y hy => List.mem_flatMap.2 ⟨x, hx, hy⟩
 by_cases c : h < r.first
 ·refine ⟨{ x with last := min x.last (r.first - 1) }, hin _ ?_, has_iff.2 ⟨hh.1, by show h ≤ min _ _; omega⟩, rfl, rfl⟩
  unfold aroundX
  simp only [List.mem_append]
  left
  rw [if_pos (by omega)]
  simp
 ·refine ⟨{ x with first := max x.first (r.last + 1) }, hin _ ?_, has_iff.2 ⟨by show max _ _ ≤ h; omega, hh.2⟩, rfl, rfl⟩
  unfold aroundX
  simp only [List.mem_append]
  right; right
  rw [if_pos (by omega)]
  simp
end Go.Proofs.YtcmjgghkmdbphaaGreatDoor
namespace Go.Proofs.YtcmjgghkmdbphaaGreatDoor
open Go.RowKit
theorem rsound_any (A : Option Addr) (c : Nat) (l : List Range) (P : Nat → Prop) (w : World) (hr : RangeR.Row w P A l) (hs : soundR l = true) :
 Calls Tryz.prog 241 #[.slice A l.length c] w fun e w' => e = .returned (.bool true) ∧ Below w.heap.size w w' := by
 have HR := jh hr; clear hr
 have HL := jh (sound_iff.1 hs); clear hs
 go_enter Tryz.func241, Tryz.ntmps241
 go_wp2_with fail
 go_loopw [3, 4] (fun nx i wr => ∃ (k : Nat) (n : Int), k ≤ l.length ∧ i = .int .i64 k ∧ nx = .int .i64 n ∧ 0 ≤ n ∧ soundFrom (l.drop k) n = some 4294967296 ∧ Below w.heap.size w wr) (fun _ i _ => l.length - (intOf i).toNat)
 case atStart => exact ⟨0, 0, Nat.zero_le _, rfl, rfl, by omega, HL.out.1, jb _ _⟩
 case round =>
  obtain ⟨k, n, hk, rfl, rfl, hn0, hs, hbl⟩ := hrel
  have HS := jh hs; clear hs
  by_cases hlt : k < l.length
  ·have hlk := jg hlt
   have hd := soundFrom_drop l k n hlt
   generalize l[k] = x at hlk hd
   obtain ⟨b, o, cs, rfl, hP, hbw, hrep, hcs⟩ := (HR.out.ext hbl).at_ hlk
   obtain ⟨rfl, hf⟩ := range_rep.1 hrep
   have hok : (x.first = n ∧ n ≤ x.last ∧ x.last ≤ 4294967295 ∧ ownedB x = true) ∧ soundFrom (l.drop (k + 1)) (x.last + 1) = some 4294967296 := by
    have h1 := HS.out
    rw [hd] at h1
    split at h1
    ·rename_i h2; exact ⟨h2, h1⟩
    ·cases h1
   obtain ⟨⟨h1, h2, h3, h4⟩, h5⟩ := hok
   obtain ⟨h6, h7, h8, h9⟩ := ownedB_iff.1 h4
   subst h1
   have HD := jh (ja (show 0 ≤ x.last + 1 by omega) (ja h3 h5))
   have c0 := hcs 0 _ rfl; have c1 := hcs 1 _ rfl; have c2 := hcs 2 _ rfl; have c3 := hcs 3 _ rfl; simp only [RangeR_size, Nat.add_zero] at c0 c1 c2 c3
   clear hd hcs hrep hlk h4 h5
   have hlt' : (k : Int) < l.length := by omega
   have hbx := (jb wr.heap.size wr).al (.cells #[.int .i64 x.first, .int .i64 x.last, .int .i64 x.owner, .int .i64 x.epoch] 27)
   have hWK : Hid (wrap64 ((k : Int) + 1) = ((k + 1 : Nat) : Int)) := jh (by have := HL.out.2; rw [wrap_in _ (by omega)]; rfl)
   have hxw : Hid (wrap64 (x.last + 1) = x.last + 1) := jh (wrap_in _ (by have := hf; omega))
   have g2 : decide (x.last < x.first) = false := jd (by omega)
   have g3 : decide (4294967295 < x.last) = false := jd (by omega)
   have g4 : decide (x.owner < 1) = false := jd (by omega)
   have g5 : decide (5 < x.owner) = false := jd (by omega)
   have g6 : decide (x.epoch < 1) = false := jd (by omega)
   have g7 : decide (1099511627776 < x.epoch) = false := jd (by omega)
   clear h2 h3 h6 h7 h8 h9
   go_wp2_with fail
   go_round
   case rel =>
    exact ⟨k + 1, x.last + 1, by omega, by rw [hWK.out], by rw [hxw.out], HD.out.1, HD.out.2.2, hbl.tr hbx⟩
   case measure => rw [hWK.out]; simp [intOf]; omega
  ·have hkn : k = l.length := by omega
   subst hkn
   have hs := HS.out
   rw [List.drop_length] at hs
   have hn1 : n = 4294967296 := by injection hs
   clear hs
   subst hn1
   have h64' : (l.length : Int) ≤ 64 := by have := HL.out.2; omega
   go_wp2_with fail
   go_ret
   exact ⟨rfl, hbl⟩
theorem rfind_any (A : Option Addr) (c : Nat) (l : List Range) (h : Int) (P : Nat → Prop) (w : World) (hr : RangeR.Row w P A l) (hs : soundR l = true) (h0 : 0 ≤ h) (h1 : h < 4294967296) :
 Calls Tryz.prog 162 #[.slice A l.length c, .int .i64 h] w fun e w' => e = .returned (Found (findR l h).1 (findR l h).2) ∧ Below w.heap.size w w' := by
 have hb0 := (jb w.heap.size w).al (.cells #[.int .i64 0, .int .i64 0, .int .i64 0, .int .i64 0] 27)
 have B0 := Blk.new w 27 [.int .i64 0, .int .i64 0, .int .i64 0, .int .i64 0]
 have CS := rsound_any A c l P (w.alloc (.cells #[.int .i64 0, .int .i64 0, .int .i64 0, .int .i64 0] 27)) (hr.ext hb0) hs
 have HR := jh (hr.mono (Q := fun g => g < w.heap.size) fun g _ h => h); clear hr
 have HS := jh (ja hs (ja h0 h1)); clear hs h0 h1
 go_enter Tryz.func162, Tryz.ntmps162
 go_wp2_with fail
 refine CS.mono ?_
 clear CS
 rintro e w1 ⟨rfl, hb1⟩
 have H1 := jh (ja (hb0.tr hb1) (B0.ext hb1))
 clear B0 hb0 hb1
 go_wp2_with fail
 go_loopw [6] (fun i wr => ∃ k : Nat, k ≤ l.length ∧ i = .int .i64 k ∧ (∀ x ∈ l.take k, x.has h = false) ∧ Below w.heap.size w wr ∧ Blk wr w.heap.size 27 [.int .i64 0, .int .i64 0, .int .i64 0, .int .i64 0]) (fun i _ => l.length - (intOf i).toNat)
 case atStart => exact ⟨0, Nat.zero_le _, rfl, by simp, H1.out.1, H1.out.2⟩
 case round =>
  obtain ⟨k, hk, rfl, hno, hw1, B1⟩ := hrel
  have HNO := jh hno; clear hno
  by_cases hlt : k < l.length
  ·have hlk := jg hlt
   have hmem : l[k] ∈ l := List.getElem_mem hlt
   have htk : l.take (k + 1) = l.take k ++ [l[k]] := (List.take_append_getElem hlt).symm
   generalize l[k] = x at hlk hmem htk
   obtain ⟨b, o, cs, rfl, hP, hbw, hrep, hcs⟩ := (HR.out.ext hw1).at_ hlk
   obtain ⟨rfl, hf⟩ := range_rep.1 hrep
   have c0 := hcs 0 _ rfl; have c1 := hcs 1 _ rfl; have c2 := hcs 2 _ rfl; have c3 := hcs 3 _ rfl; simp only [RangeR_size, Nat.add_zero] at c0 c1 c2 c3
   have HB := jh B1
   have HM := jh (ja hmem htk)
   have hWK : Hid (wrap64 ((k : Int) + 1) = ((k + 1 : Nat) : Int)) := jh (by have := (sound_iff.1 HS.out.1).2; rw [wrap_in _ (by omega)]; rfl)
   clear hrep hcs hlk hmem htk
   have hlt' : (k : Int) < l.length := by omega
   have hne : b ≠ w.heap.size := by omega
   have hcase : (x.first ≤ h ∧ h ≤ x.last) ∨ (x.first ≤ h ∧ ¬ h ≤ x.last) ∨ ¬ x.first ≤ h := by omega
   rcases hcase with ⟨g1, g2⟩ | ⟨g1, g2⟩ | g1
   ·have HF := jh (find_eq HS.out.1 HS.out.2.1 HS.out.2.2 HM.out.1 (has_iff.2 ⟨g1, g2⟩))
    have f0 := B1.frozen 0
    have f1 := B1.frozen 1
    have f2 := B1.frozen 2
    have f3 := B1.frozen 3
    have b0 := B1.cell 0
    have b1 := B1.cell 1
    have b2 := B1.cell 2
    have b3 := B1.cell 3
    simp only [List.getElem?_cons_zero, List.getElem?_cons_succ] at b0 b1 b2 b3
    clear B1
    go_wp2_with fail
    rw [HF.out]
    exact bodyPost_ret (results_blk_tmp rfl _ ((((HB.out.set_ 0 (.int .i64 x.first)).set_ 1 (.int .i64 x.last)).set_ 2 (.int .i64 x.owner)).set_ 3 (.int .i64 x.epoch)) rfl Tryz.underlying27 rfl (by kernel_rfl)) rfl ⟨rfl, (((hw1.st (Nat.le_refl _) _).st (Nat.le_refl _) _).st (Nat.le_refl _) _).st (Nat.le_refl _) _⟩
   ·have g2' : decide (h ≤ x.last) = false := jd g2
    have HX := jh (show x.has h = false from by rw [← Bool.not_eq_true, has_iff]; exact fun a => g2 a.2)
    clear g2
    go_wp2_with fail
    go_round
    case rel =>
     refine ⟨k + 1, by omega, by rw [hWK.out], ?_, hw1, HB.out⟩
     rw [HM.out.2]
     intro y hy
     rcases List.mem_append.1 hy with hy | hy
     ·exact HNO.out y hy
     ·rw [List.mem_singleton.1 hy]; exact HX.out
    case measure => rw [hWK.out]; simp [intOf]; omega
   ·have g1' : decide (x.first ≤ h) = false := jd g1
    have HX := jh (show x.has h = false from by rw [← Bool.not_eq_true, has_iff]; exact fun a => g1 a.1)
    clear g1
    go_wp2_with fail
    go_round
    case rel =>
     refine ⟨k + 1, by omega, by rw [hWK.out], ?_, hw1, HB.out⟩
     rw [HM.out.2]
     intro y hy
     rcases List.mem_append.1 hy with hy | hy
     ·exact HNO.out y hy
     ·rw [List.mem_singleton.1 hy]; exact HX.out
    case measure => rw [hWK.out]; simp [intOf]; omega
  ·exfalso
   have hkn : k = l.length := by omega
   subst hkn
   obtain ⟨x, hx, hh⟩ := soundFrom_cover (sound_iff.1 HS.out.1).1 HS.out.2.1 HS.out.2.2
   have := HNO.out x (by rw [List.take_length]; exact hx)
   rw [hh] at this; cases this
end Go.Proofs.YtcmjgghkmdbphaaGreatDoor
namespace Go.Proofs.YtcmjgghkmdbphaaGreatDoor
open Go.RowKit Go.ChangeMaps
section
variable {κ : Type} {enc : κ → Value} {w : World} {m it : Nat} {ps left : List (κ × Value)} {F : Fence} {n : Nat} {P : Program}
variable {ops : Array Oper} {rest : List Oper} {o : Oper} {a : Act} {Q : Exit → Act → World → Prop}
theorem wpListIn_range_map (hg : o.guard = none) (mo : Operand) (t : TypeId) (hop : o.op = Op.range t mo) {kt e : TypeId} (ht : P.underlying t = some (.map kt e)) (hm : a.eval mo = .map (some m)) (h : MapAt enc w m ps)
 (hK : ∀ w', IterAt enc w' w.heap.size m ps → Below w.heap.size w w' → w'.heap.size = w.heap.size + 1 → wpListIn F n P ops Q rest (a.put o.dst (.pointer (some ⟨w.heap.size, 0, none⟩))) w') : wpListIn F n P ops Q (o :: rest) a w := by
 refine wpListIn_plain hg fun K' hK' => ?_
 obtain ⟨w', hrun, r1, r2, r3⟩ := run_range_at (P := P) ht h
 unfold Oper.wpIn
 refine ⟨?_, ?_⟩
 ·simp [Oper.about, hop]
 ·rw [Oper.semAt_plain F _ _ (by rw [hop]; intro c hc'; cases hc')]
  simp [execOp, hop, hm, hrun, Result.andThen]
  exact hK' _ _ (hK w' r1 r2 r3)
theorem wpListIn_next_map (hg : o.guard = none) (ito : Operand) (hop : o.op = Op.next ito false) (hit : a.eval ito = .pointer (some ⟨it, 0, none⟩)) (h : IterAt enc w it m left)
 (hDone : left = [] → wpListIn F n P ops Q rest (a.put o.dst (.tuple #[.bool false])) w)
 (hMore : ∀ (i : Nat) (p : κ × Value) (w' : World), left[i]? = some p → IterAt enc w' it m (left.eraseIdx i) → Only (· = it) w w' → w'.heap.size = w.heap.size →
  (∀ w'', w''.heap[m]? = w'.heap[m]? → w''.heap[it]? = w'.heap[it]? → (Instr.entry (.pointer (some ⟨it, 0, none⟩))).run P w'' = .ok (.tuple #[enc p.1, p.2]) w'') → wpListIn F n P ops Q rest (a.put o.dst (.tuple #[.bool true, enc p.1, p.2])) w') : wpListIn F n P ops Q (o :: rest) a w := by
 refine wpListIn_plain hg fun K' hK' => ?_
 unfold Oper.wpIn
 refine ⟨by simp [Oper.about, hop], ?_⟩
 rw [Oper.semAt_plain F _ _ (by rw [hop]; intro c hc'; cases hc')]
 rcases run_next_iter (P := P) o.type h with ⟨h0, hrun⟩ | ⟨i, p, w', hp, hrun, r1, r2, r3, r4⟩
 ·simp [execOp, hop, hit, hrun, Result.andThen]
  exact hK' _ _ (hDone h0)
 ·simp [execOp, hop, hit, hrun, Result.andThen]
  exact hK' _ _ (hMore i p w' hp r1 r2 r3 r4)
theorem wpListIn_range_nil (hg : o.guard = none) (mo : Operand) (t : TypeId) (hop : o.op = Op.range t mo) {kt e : TypeId} (ht : P.underlying t = some (.map kt e)) (hm : a.eval mo = .map none)
 (hK : ∀ w', IterNil w' w.heap.size → Below w.heap.size w w' → w'.heap.size = w.heap.size + 1 → wpListIn F n P ops Q rest (a.put o.dst (.pointer (some ⟨w.heap.size, 0, none⟩))) w') : wpListIn F n P ops Q (o :: rest) a w := by
 refine wpListIn_plain hg fun K' hK' => ?_
 have hrun := run_range_nilMap (P := P) w t kt e ht
 unfold Oper.wpIn
 refine ⟨by simp [Oper.about, hop], ?_⟩
 rw [Oper.semAt_plain F _ _ (by rw [hop]; intro c hc'; cases hc')]
 simp [execOp, hop, hm, hrun, Result.andThen]
 exact hK' _ _ (hK _ ⟨_, _, _, heap_alloc_new w _⟩ ((jb _ _).al _) (by simp))
theorem wpListIn_next_nil (hg : o.guard = none) (ito : Operand) (hop : o.op = Op.next ito false) (hit : a.eval ito = .pointer (some ⟨it, 0, none⟩)) (h : IterNil w it)
 (hDone : wpListIn F n P ops Q rest (a.put o.dst (.tuple #[.bool false])) w) : wpListIn F n P ops Q (o :: rest) a w := by
 refine wpListIn_plain hg fun K' hK' => ?_
 obtain ⟨x, s, b, h⟩ := h
 have hrun : (Instr.next (.pointer (some ⟨it, 0, none⟩)) false o.type).run P w = .ok (.tuple #[.bool false]) w := by
  simp only [Instr.next, getObj, Sem.run_bind, Sem.run, h, Result.andThen]
  rfl
 unfold Oper.wpIn
 refine ⟨by simp [Oper.about, hop], ?_⟩
 rw [Oper.semAt_plain F _ _ (by rw [hop]; intro c hc'; cases hc')]
 simp [execOp, hop, hit, hrun, Result.andThen]
 exact hK' _ _ hDone
end
end Go.Proofs.YtcmjgghkmdbphaaGreatDoor
namespace Go.Proofs.YtcmjgghkmdbphaaGreatDoor
open Go.RowKit Go.ChangeMaps
theorem cons_erase_perm {α : Type} : ∀ (l : List α) (i : Nat) (x : α), l[i]? = some x → (x :: l.eraseIdx i).Perm l
 | [], i, x, h => by simp at h
 | a :: l, 0, x, h => by
   simp at h; subst h
   exact List.Perm.refl _
 | a :: l, i + 1, x, h => by
   simp at h
   rw [List.eraseIdx_cons_succ]
   exact (List.Perm.swap a x _).trans ((cons_erase_perm l i x h).cons a)
theorem Only.grownBy {w w' : World} {it : Nat} (h : Only (· = it) w w') : w.grownBy w' (some it) := ⟨h.os, h.tape, h.output, h.size, fun g hg hn => h.block g hg (fun e => hn (by rw [e]))⟩
theorem below_grown {w w' : World} (h : Below w.heap.size w w') : w.grownBy w' none := ⟨h.os, h.tape, h.output, h.size, fun g hg _ => h.block g hg⟩
theorem IterAt.walk {κ : Type} {enc : κ → Value} {w : World} {it m : Nat} {left : List (κ × Value)} (h : IterAt enc w it m left) : ∃ o : Obj, w.heap[it]? = some o ∧ o.isWalk = true := by
 obtain ⟨es, clk, since, c0, seen, hm, hi, _⟩ := h
 exact ⟨_, hi, rfl⟩
theorem IterAt.walks {κ : Type} {enc : κ → Value} {w w' : World} {it m : Nat} {left : List (κ × Value)} (h : IterAt enc w it m left) (hk : KeepsWalks w w') : IterAt enc w' it m left := by
 obtain ⟨es, clk, since, c0, seen, hm, hi, r⟩ := h
 exact ⟨es, clk, since, c0, seen, hk.same _ _ hm rfl, hk.same _ _ hi rfl, r⟩
set_option maxRecDepth 100000 in
theorem keysH_in (F : Fence) (n : Nat) (h10 : F.fn 223) (hro : F.round = none) (hn : 1 ≤ n) (l Bm m : Nat) (ps : List (Tx × Value)) (J : List Tx → World → Prop)
 (hY : ∀ pre x W, J pre W → pre.length < ps.length → YieldAt F (n - 1) Tryz.prog l #[txE x] W fun e W' => e = .returned (.bool true) ∧ J (pre ++ [x]) W' ∧ KeepsWalks W W')
 (W : World) (hJ : AbidesFrom W.heap.size J) (hm : W.cell? ⟨Bm, 0, none⟩ = some (.map (some m))) (hown : MapAt txE W m ps) (h0 : J [] W) :
 CallsIn F n Tryz.prog 223 #[.func (.yield l) #[] #[], .pointer (some ⟨Bm, 0, none⟩)] W fun e W' => (∃ v, e = .returned v) ∧ ∃ xs : List Tx, xs.Perm (ps.map (·.1)) ∧ J xs W' := by
 refine callsIn_of_wp Tryz.func223 rfl h10 ?_ hro
 simp only [Tryz.ntmps223, List.size_toArray, List.length_cons, List.length_nil, Nat.reduceAdd, Nat.reduceSub, Array.replicate_succ, Array.replicate_zero, List.push_toArray, List.append_toArray, List.nil_append, List.cons_append]
 gi_wp2_with (first
  | (gi_at_range; refine wpListIn_range_map rfl (.tmp 4) 172 rfl Tryz.underlying172 rfl hown ?_; intro w0 hit0 hb0 hs0)
  | gi_in)
 go_frame
 have HY := jh (ja hY hJ)
 clear hY hJ
 gi_loopw [3] (fun _ wr => ∃ (left : List (Tx × Value)) (ss : List Tx), IterAt txE wr W.heap.size m left ∧ (ss ++ left.map (·.1)).Perm (ps.map (·.1)) ∧ J ss wr)
  (fun _ wr => leftLen wr W.heap.size m)
 case atStart =>
  exact ⟨ps, [], hit0, List.Perm.refl _, HY.out.2 [] W w0 none h0 (below_grown hb0) (fun r e => by cases e)⟩
 case round =>
  obtain ⟨left, ss, hit, hp, hJs⟩ := hrel
  have HP := jh hp
  have HL := jh (show leftLen wr W.heap.size m = left.length from hit.len)
  clear hp
  gi_wp2_with (first
   | (gi_at_next; refine wpListIn_next_map rfl (.tmp 5) rfl rfl hit ?_ ?_)
   | gi_in)
  ·intro hl0
   subst hl0
   gi_wp2
   go_end0
   exact ⟨⟨_, rfl⟩, ss, by have := HP.out; simpa using this, hJs⟩
  ·intro i x v w2 hi hit2 hO2 hs2 hen
   have hlen := HP.out.length_eq
   have hil : i < left.length := (List.getElem?_eq_some_iff.1 hi).1
   have hJ2 : J ss w2 := HY.out.2 ss wr w2 (some W.heap.size) hJs hO2.grownBy (fun r e => by cases e; exact ⟨Nat.le_refl _, hit.walk⟩)
   have hJ3 : J ss (w2.alloc (.cells #[.int .i64 x.node, .int .i64 x.life, .int .i64 x.num] 42)) := HY.out.2 ss w2 _ none hJ2 (below_grown ((jb w2.heap.size w2).al _)) (fun r e => by cases e)
   obtain ⟨fn, tmps, assign, body, hy, hR⟩ := HY.out.1 ss x _ hJ3 (by simp only [List.length_append, List.length_map] at hlen; omega)
   replace hen := hen w2 rfl rfl
   have ex : txE x = .agg #[.int .i64 x.node, .int .i64 x.life, .int .i64 x.num] := rfl
   rw [ex] at hen hy ⊢
   clear ex
   have HC := jh (ja hlen (ja hi hit2))
   clear hlen hi hs2 hO2 hit hJs hJ2
   clear hJ3
   gi_wp2
   refine hR.mono ?_
   rintro e W3 ⟨rfl, hJ4, hk3⟩
   have hit3 := (HC.out.2.2.walks (KeepsWalks.alloc w2 _)).walks hk3
   have hl3 : leftLen W3 W.heap.size m = left.length - 1 := by rw [hit3.len, List.length_eraseIdx, if_pos hil]
   have H3 := jh (ja hit3 hl3)
   clear hit3 hl3 hk3
   gi_wp2
   go_roundw
   case rel =>
    refine ⟨left.eraseIdx i, ss ++ [x], H3.out.1, ?_, hJ4⟩
    refine List.Perm.trans ?_ HP.out
    rw [List.append_assoc]
    refine List.Perm.append_left ss ?_
    have h := HC.out.2.1
    rw [map_erase]
    have hx : (left.map (·.1))[i]? = some x := by rw [List.getElem?_map, h]; rfl
    exact cons_erase_perm _ i x hx
   case measure =>
    rw [H3.out.2, HL.out]
    omega
theorem keysH_gives (F : Fence) (n : Nat) (h10 : F.fn 223) (hro : F.round = none) (hn : 1 ≤ n) (Bm m : Nat) (ps : List (Tx × Value)) (w : World) (hBm : Bm < w.heap.size)
 (hm : w.cell? ⟨Bm, 0, none⟩ = some (.map (some m))) (hown : MapAt txE w m ps) :
 SeqGives F n Tryz.prog 223 #[.pointer (some ⟨Bm, 0, none⟩)] txE (fun xs => xs.Perm (ps.map (·.1))) ps.length w := fun l J W hW hJ hY h0 =>
 keysH_in F n h10 hro hn l Bm m ps J hY W hJ ((hW.cell (p := ⟨Bm, 0, none⟩) hBm).trans hm) (hown.ext hW) h0
end Go.Proofs.YtcmjgghkmdbphaaGreatDoor
namespace Go.Proofs.YtcmjgghkmdbphaaGreatDoor
open Go.RowKit Go.Shelf
theorem tx_info : (Tryz.prog.info? 42).map (fun i => (i.zero, i.size, i.bytes)) = some (some (.agg #[.int .i64 0, .int .i64 0, .int .i64 0]), 3, 24) := by kernel_rfl
def loopOf : Option Code → Code × Code
 | some (.seq _ (.seq (.seq _ (.block _ (.rangeFunc _ _ a b))) _)) => (a, b)
 | _ => (.skip, .skip)
noncomputable def apRec (fn : FuncId) (sv : Value) (Bs D : Nat) (st : LoopState) (pend : Option Code) : Loop :=
 { state := st, pending := pend, fn, tmps := #[.slice none 0 0, sv, .pointer (some ⟨Bs, 0, none⟩), undef, .slice none 0 0, undef, sv, undef, undef, undef, undef, undef, undef], params := #[7], assign := (loopOf (Func.body Tryz.f284)).1, body := (loopOf (Func.body Tryz.f284)).2, defers := D }
structure ApAt (w0 : World) (fn : FuncId) (sv : Value) (Bs l D : Nat) (ss : List Tx) (W : World) : Prop where
 box : ∃ v, W.heap[Bs]? = some (.cells #[v] 62 (0, 0)) ∧ W.ownsRow w0.heap.size 42 3 v ss.length (ss.flatMap Tx.cells) ∧ (v = .slice none 0 0 ↔ ss = [])
 L : W.heap[l]? = some (.loop (apRec fn sv Bs D .ready none))
 K : W.heap[D]? = some (.deferred (some []))
 below : Below w0.heap.size w0 W
theorem ap_abides (w0 : World) (fn : FuncId) (sv : Value) (Bs l D B : Nat) (hB : w0.heap.size ≤ B) : AbidesFrom B (ApAt w0 fn sv Bs l D) := fun s W W' row h hg hrow => by
 have hrow' : ∀ r, row = some r → ∃ o : Obj, W.heap[r]? = some o ∧ o.isWalk = true := fun r e => (hrow r e).2
 obtain ⟨v, hv, hr, hn⟩ := h.box
 exact ⟨⟨v, (grownBy_keeps hg hrow' hv rfl).trans hv, ownsRow_abides_a hr hg hrow', hn⟩, (grownBy_keeps hg hrow' h.L rfl).trans h.L, (grownBy_keeps hg hrow' h.K rfl).trans h.K,
  h.below.grown hg h.below.size (fun k e => Nat.le_trans hB (hrow k e).1)⟩
set_option maxRecDepth 100000 in
theorem apYield (F : Fence) (m : Nat) (w0 : World) (fn : FuncId) (hfn : F.fn fn) (sv : Value) (Bs l D : Nat) (hBl : Bs ≠ l) (hDl : D ≠ l) (hDB : D ≠ Bs) (h0B : w0.heap.size ≤ Bs) (h0l : w0.heap.size ≤ l)
 (N : Nat) (hN : N ≤ 1000000) (ss : List Tx) (x : Tx) (W : World) (h : ApAt w0 fn sv Bs l D ss W) (hlen : ss.length < N) :
 YieldAt F m Tryz.prog l #[txE x] W fun e W' => e = .returned (.bool true) ∧ ApAt w0 fn sv Bs l D (ss ++ [x]) W' ∧ KeepsWalks W W' := by
 have hne : (62 : TypeId) ≠ 42 := by decide
 obtain ⟨i0, hi, hz0, hz1, hz2⟩ := info_parts tx_info
 refine ⟨fn, #[.slice none 0 0, sv, .pointer (some ⟨Bs, 0, none⟩), undef, .slice none 0 0, undef, sv, txE x, undef, undef, undef, undef, undef], (loopOf (Func.body Tryz.f284)).1, (loopOf (Func.body Tryz.f284)).2, by simpa [apRec] using run_yield (P := Tryz.prog) (args := #[txE x]) h.L rfl, roundIn_of_wpIn hfn ?_⟩
 have hl0 : l < W.heap.size := (Array.getElem?_eq_some_iff.1 h.L).1
 have BX := Blk.new W 42 x.cells
 obtain ⟨W1, hW1⟩ : ∃ W1, W.alloc (.cells #[.int .i64 x.node, .int .i64 x.life, .int .i64 x.num] 42) = W1 := ⟨_, rfl⟩
 have hW1' : W.alloc (.cells x.cells.toArray 42) = W1 := hW1
 rw [hW1'] at BX
 have hg1 : W.grownBy W1 none := by rw [← hW1]; exact below_grown ((jb W.heap.size W).al _)
 have hk1 : KeepsWalks W W1 := by rw [← hW1]; exact KeepsWalks.alloc _ _
 have hA : ApAt w0 fn sv Bs l D ss W1 := ap_abides w0 fn sv Bs l D w0.heap.size (Nat.le_refl _) ss W W1 none h hg1 (fun r e => by cases e)
 obtain ⟨v, hv, hrow, _⟩ := hA.box
 have hl : l < W1.heap.size := (Array.getElem?_eq_some_iff.1 hA.L).1
 have hbr := run_beginRound (P := Tryz.prog) hA.L rfl
 obtain ⟨W2, hW2⟩ : ∃ W2, W1.putObj l (.loop { apRec fn sv Bs D .ready none with state := .busy }) = W2 := ⟨_, rfl⟩
 rw [hW2] at hbr
 have hg2 : W1.grownBy W2 (some l) := by rw [← hW2]; exact grownBy_putObj_a _ _ _
 have hk2 : KeepsWalks W W2 := hk1.trans (by rw [← hW2]; exact KeepsWalks.putObj _ hA.L rfl)
 have hv2 : W2.heap[Bs]? = some (.cells #[v] 62 (0, 0)) := by rw [← hW2]; exact (World.putObj_heap_other hBl).trans hv
 have hK2 : W2.heap[D]? = some (.deferred (some [])) := by rw [← hW2]; exact (World.putObj_heap_other hDl).trans hA.K
 have hL2 : W2.heap[l]? = some (.loop { apRec fn sv Bs D .ready none with state := .busy }) := by rw [← hW2]; exact World.putObj_heap_same hl
 have hrow2 : W2.ownsRow w0.heap.size 42 3 v ss.length (ss.flatMap Tx.cells) := hrow.kept hg2 (ownsRow_ne_a hrow hA.L (fun cur e => by cases e))
 have hb2 : Below w0.heap.size w0 W2 := hA.below.grown hg2 hA.below.size (fun k e => by cases e; exact h0l)
 obtain ⟨hc2, hf2⟩ := cell_of_box_a hv2
 have hBlt : Bs < W2.heap.size := (Array.getElem?_eq_some_iff.1 hv2).1
 have hl2 : l < W2.heap.size := (Array.getElem?_eq_some_iff.1 hL2).1
 have hDlt : D < W2.heap.size := (Array.getElem?_eq_some_iff.1 hK2).1
 have BX2 := BX.grown hg2 (fun e => by cases e; omega)
 have x0 := BX2.cell 0
 have x1 := BX2.cell 1
 have x2 := BX2.cell 2
 simp only [Tx.cells, List.getElem?_cons_zero, List.getElem?_cons_succ] at x0 x1 x2
 have ne_of : ∀ {j : Nat} {o : Obj}, W2.heap[j]? = some o → (∀ cur, o ≠ .cells cur 42 (0, 0)) → some j ≠ v.ownBlock := fun hj hno => by
  rcases ownsRow_ne_a hrow2 hj hno with e | e
  ·rw [e]; simp
  ·exact fun e' => e e'.symm
 clear hW2 BX BX2 hW1' hA hv hrow h hg1
 dsimp only [loopOf, Tryz.f284]
 unfold txE
 have hcs : ∀ (j : Nat) (u : Value), x.cells[j]? = some u → (W2.alloc (.cells #[.int .i64 x.node, .int .i64 x.life, .int .i64 x.num] 42)).cell? ((⟨W2.heap.size, 0, none⟩ : Addr).add j) = some u := fun j u hj => by
  have := (Blk.new W2 42 x.cells).cell j
  rw [hj] at this
  rw [show ((⟨W2.heap.size, 0, none⟩ : Addr).add j) = ⟨W2.heap.size, j, none⟩ from by cases j <;> simp [Addr.add]]
  exact this
 gi_wp2_with (first
  | (gi_at_builtin; refine wpListIn_append_own _ rfl _ _ 62 rfl w0.heap.size 42 i0 (.agg #[.int .i64 0, .int .i64 0, .int .i64 0]) 3 24 Tryz.underlying62 hi hz0 hz1 hz2 rfl (by decide) _ _ _ rfl (hrow2.alloc _) ⟨W2.heap.size, 0, none⟩ 1 1 x.cells rfl rfl hcs (by simp [Value.oneCell', Tx.cells]) (by simp only [maxLen]; omega) (by omega) (by have := hb2.size; simp; omega) ?_; intro v' w3 hown' hg3 hnil3
     have hv3 : w3.heap[Bs]? = some (.cells #[v] 62 (0, 0)) := (hg3.block Bs (by simp; omega) (ne_of hv2 (fun cur e => by cases e))).trans ((Below.heap_alloc _ _ Bs hBlt).trans hv2)
     obtain ⟨hc3, hf3⟩ := cell_of_box_a hv3
     obtain ⟨g', cap', cur', rfl, hbase', hgb', hr1, hr2, hr3, hr4⟩ : ∃ g' cap' cur', v' = .slice (some ⟨g', 0, none⟩) (ss.length + 1) cap' ∧ w0.heap.size ≤ g' ∧ w3.heap[g']? = some (.cells cur' 42 (0, 0)) ∧ ss.length + 1 ≤ cap' ∧ cap' ≤ maxLen ∧ cur'.size = cap' * 3 ∧ cur'.toList.take ((ss.length + 1) * 3) = ss.flatMap Tx.cells ++ x.cells := by
      rcases hown'.2 with ⟨_, h0⟩ | h'
      ·exact absurd h0 (by omega)
      ·exact h'
     go_frame)
  | gi_round_op_a)
 have hg3' : (W2.alloc (.cells #[.int .i64 x.node, .int .i64 x.life, .int .i64 x.num] 42)).grownBy w3 v.ownBlock := hg3
 have hL3 : w3.heap[l]? = some (.loop { apRec fn sv Bs D .ready none with state := .busy }) := (hg3'.block l (by simp; omega) (ne_of hL2 (fun cur e => by cases e))).trans ((Below.heap_alloc _ _ l hl2).trans hL2)
 have hK3 : w3.heap[D]? = some (.deferred (some [])) := (hg3'.block D (by simp; omega) (ne_of hK2 (fun cur e => by cases e))).trans ((Below.heap_alloc _ _ D hDlt).trans hK2)
 obtain ⟨w4, hw4⟩ : ∃ w4, w3.setCell ⟨Bs, 0, none⟩ (.slice (some ⟨g', 0, none⟩) (ss.length + 1) cap') = w4 := ⟨_, rfl⟩
 rw [hw4]
 have hg4 : w3.grownBy w4 (some Bs) := by rw [← hw4]; exact grownBy_setCell0_a _ _ _
 have hv4 : w4.heap[Bs]? = some (.cells #[.slice (some ⟨g', 0, none⟩) (ss.length + 1) cap'] 62 (0, 0)) := by rw [← hw4]; exact heap_setCell_box_a _ hv3
 have hL4 : w4.heap[l]? = some (.loop { apRec fn sv Bs D .ready none with state := .busy }) := (hg4.block l (Array.getElem?_eq_some_iff.1 hL3).1 (fun e => hBl (by cases e; rfl))).trans hL3
 have hK4 : w4.heap[D]? = some (.deferred (some [])) := (hg4.block D (Array.getElem?_eq_some_iff.1 hK3).1 (fun e => hDB (by cases e; rfl))).trans hK3
 have hrow4 := hown'.kept hg4 (ownsRow_ne_a hown' hv3 (fun cur e => by cases e))
 have hl4 : l < w4.heap.size := (Array.getElem?_eq_some_iff.1 hL4).1
 have hb3 : Below w0.heap.size w0 w3 := (hb2.alloc hb2.size _).grown hg3' (by have := hb2.size; simp; omega) (fun k e => (hrow2.lt k e).1)
 have hb4 : Below w0.heap.size w0 w4 := hb3.grown hg4 hb3.size (fun k e => by cases e; exact h0B)
 have hk4 : KeepsWalks W w4 := ((hk2.trans (KeepsWalks.alloc _ _)).trans (KeepsWalks.of_grownBy hg3' (ownsRow_not_walk_a (hrow2.alloc _)))).trans (by rw [← hw4]; exact KeepsWalks.setCell _ _ _)
 clear hw4
 refine ⟨_, _, run_endRound none hL4, rfl, ⟨⟨_, (World.putObj_heap_other hBl).trans hv4, ?_, by simp⟩, World.putObj_heap_same hl4, (World.putObj_heap_other hDl).trans hK4, hb4.grown (grownBy_putObj_a _ _ _) hb4.size (fun k e => by cases e; exact h0l)⟩, hk4.trans (KeepsWalks.putObj _ hL4 rfl)⟩
 have := hrow4.kept (grownBy_putObj_a w4 l (.loop { { apRec fn sv Bs D .ready none with state := .busy } with state := if (none : Option Code).isNone then .ready else .done, pending := none })) (ownsRow_ne_a hrow4 hL4 (fun cur e => by cases e))
 simpa using this
set_option maxRecDepth 100000 in
theorem appendSeqT_in (F : Fence) (n : Nat) (h11 : F.fn 284) (hro : F.round = none) (hn : 2 ≤ n) (g : Nat) (lb : Array Value) (hFg : F.fn g) (eg : ∀ args w, (callFunc g args).run Tryz.prog w = .ok (.enter g args) w)
 (S : List Tx → Prop) (N : Nat) (hN : N ≤ 1000000) (w : World) (hseq : SeqGives F (n - 1) Tryz.prog g lb txE S N w) :
 CallsIn F n Tryz.prog 284 #[.slice none 0 0, .func (.func g) #[] lb] w fun e w' => ∃ (v : Value) (ss : List Tx), e = .returned v ∧ S ss ∧ w'.ownsRow w.heap.size 42 3 v ss.length (ss.flatMap Tx.cells) ∧ (v = .slice none 0 0 ↔ ss = []) ∧ Below w.heap.size w w' := by
 have h1 : 1 ≤ n := by omega
 refine callsIn_of_wp_marks Tryz.func284 rfl h11 ?_ hro
 simp only [Tryz.ntmps284, List.size_toArray, List.length_cons, List.length_nil, Nat.reduceAdd, Nat.reduceSub, Array.replicate_succ, Array.replicate_zero, List.push_toArray, List.append_toArray, List.nil_append, List.cons_append]
 gi_wp2
 refine wpIn_rangeFunc ?_
 intro fn hfn
 rw [hro]
 obtain ⟨W0, hW0⟩ : ∃ W0, w.alloc (.cells #[.slice none 0 0] 62) = W0 := ⟨_, rfl⟩
 have hs0 : W0.heap.size = w.heap.size + 1 := by rw [← hW0]; simp
 have hv0 : W0.heap[w.heap.size]? = some (.cells #[.slice none 0 0] 62 (0, 0)) := by rw [← hW0]; exact World.alloc_heap_new w _
 have hb0 : Below w.heap.size w W0 := by rw [← hW0]; exact (jb _ w).alloc (Nat.le_refl _) _
 rw [hW0]
 obtain ⟨W1, hW1⟩ : ∃ W1, (W0.alloc (.deferred (some []))).alloc (.loop (apRec fn (.func (.func g) #[] lb) w.heap.size W0.heap.size .ready none)) = W1 := ⟨_, rfl⟩
 have hold : ∀ k, k < W0.heap.size → W1.heap[k]? = W0.heap[k]? := fun k hk => by
  rw [← hW1]; exact (Below.heap_alloc _ _ k (by simp; omega)).trans (Below.heap_alloc _ _ k hk)
 have hb1 : Below w.heap.size w W1 := by rw [← hW1]; exact (hb0.alloc hb0.size _).alloc (by have := hb0.size; simp; omega) _
 have hs1 : W1.heap.size = W0.heap.size + 2 := by rw [← hW1]; simp
 have hM : ApAt w fn (.func (.func g) #[] lb) w.heap.size (W0.heap.size + 1) W0.heap.size [] W1 :=
  ⟨⟨_, (hold w.heap.size (by omega)).trans hv0, ⟨rfl, .inl ⟨rfl, rfl⟩⟩, by simp⟩,
   by rw [← hW1]; have := World.alloc_heap_new (W0.alloc (.deferred (some []))) (.loop (apRec fn (.func (.func g) #[] lb) w.heap.size W0.heap.size .ready none)); rwa [World.size_alloc] at this,
   by rw [← hW1]; exact (Below.heap_alloc _ _ _ (by simp)).trans (World.alloc_heap_new W0 _), hb1⟩
 refine ⟨W0.heap.size + 1, [{ target := .collected W0.heap.size, args := #[] }], W1, { target := .fn (.func g) lb, args := #[.func (.yield (W0.heap.size + 1)) #[] #[]] }, W1, g,
  #[.func (.yield (W0.heap.size + 1)) #[] #[]] ++ lb, W1, ?_, ?_, ?_, ?_, fun _ => h1, ?_⟩
 ·rw [← hW1]; exact run_enterLoop_outer _ _ _ _ _
 ·simp [resolve, go_sem]
 ·intro f' hf'; simp [Target.leads] at hf'; subst hf'; exact hFg
 ·simp [invoke, go_sem, eg]
 ·refine (hseq (W0.heap.size + 1) (ApAt w fn (.func (.func g) #[] lb) w.heap.size (W0.heap.size + 1) W0.heap.size) W1 hb1 (ap_abides _ _ _ _ _ _ _ hb1.size)
   (fun pre x W hJ hl => apYield F (n - 1 - 1) w fn hfn _ w.heap.size (W0.heap.size + 1) W0.heap.size (by omega) (by omega) (by omega) (Nat.le_refl _) (by omega) N hN pre x W hJ hl) hM).mono ?_
  rintro e W2 ⟨⟨v0, rfl⟩, ss, hS, h2⟩
  obtain ⟨v, hv, hrow, hnil⟩ := h2.box
  have hend := run_endLoop (P := Tryz.prog) h2.L (by simp [apRec])
  obtain ⟨W3, hW3⟩ : ∃ W3, W2.putObj (W0.heap.size + 1) (.loop { apRec fn (.func (.func g) #[] lb) w.heap.size W0.heap.size .ready none with state := .exhausted }) = W3 := ⟨_, rfl⟩
  rw [hW3] at hend
  have hg3 : W2.grownBy W3 (some (W0.heap.size + 1)) := by rw [← hW3]; exact grownBy_putObj_a _ _ _
  have hv3 : W3.heap[w.heap.size]? = some (.cells #[v] 62 (0, 0)) := by rw [← hW3]; exact (World.putObj_heap_other (by omega)).trans hv
  have hK3 : W3.heap[W0.heap.size]? = some (.deferred (some [])) := by rw [← hW3]; exact (World.putObj_heap_other (by omega)).trans h2.K
  have hrow3 := hrow.kept hg3 (ownsRow_ne_a hrow h2.L (fun cur e => by cases e))
  have hb3 : Below w.heap.size w W3 := h2.below.grown hg3 h2.below.size (fun k e => by cases e; omega)
  obtain ⟨hc3, hf3⟩ := cell_of_box_a hv3
  clear hW3
  refine ⟨none, W3, hend, ?_⟩
  gi_wp2
  rw [← hs0]
  refine ⟨by simp, .inl ⟨_, _, rfl, run_takeDeferred hK3, ?_⟩⟩
  exact ⟨_, results_tmp rfl _ _ _, v, ss, rfl, hS, hrow3.kept (grownBy_putObj_a _ _ _) (ownsRow_ne_a hrow3 hK3 (fun cur e => by cases e)), hnil, hb3.grown (grownBy_putObj_a _ _ _) hb3.size (fun k e => by cases e; omega)⟩
theorem collectT_in (F : Fence) (n : Nat) (h8 : F.fn 221) (h11 : F.fn 284) (hro : F.round = none) (hn : 3 ≤ n) (g : Nat) (lb : Array Value) (hFg : F.fn g) (eg : ∀ args w, (callFunc g args).run Tryz.prog w = .ok (.enter g args) w)
 (S : List Tx → Prop) (N : Nat) (hN : N ≤ 1000000) (w : World) (hseq : SeqGives F (n - 1 - 1) Tryz.prog g lb txE S N w) :
 CallsIn F n Tryz.prog 221 #[.func (.func g) #[] lb] w fun e w' => ∃ (v : Value) (ss : List Tx), e = .returned v ∧ S ss ∧ w'.ownsRow w.heap.size 42 3 v ss.length (ss.flatMap Tx.cells) ∧ (v = .slice none 0 0 ↔ ss = []) ∧ Below w.heap.size w w' := by
 have h1 : 1 ≤ n := by omega
 have e11 : ∀ args w, (callFunc 284 args).run Tryz.prog w = .ok (.enter 284 args) w := enters_of Tryz.func284 (by kernel_rfl) rfl
 refine callsIn_of_wp Tryz.func221 rfl h8 ?_ hro
 simp only [Tryz.ntmps221, List.size_toArray, List.length_cons, List.length_nil, Nat.reduceAdd, Nat.reduceSub, Array.replicate_succ, Array.replicate_zero, List.push_toArray, List.append_toArray, List.nil_append, List.cons_append]
 gi_wp2_with (gi_at_fn 284; refine (appendSeqT_in F (n - 1) h11 hro (by omega) g lb hFg eg S N hN _ hseq).mono ?_; rintro e w' ⟨v, ss, rfl, hS, hrow, hnil, hb⟩)
 go_ret
 exact ⟨v, ss, rfl, hS, hrow, hnil, hb⟩
end Go.Proofs.YtcmjgghkmdbphaaGreatDoor
namespace Go.Proofs.YtcmjgghkmdbphaaGreatDoor
open Go.RowKit Go.Shelf
theorem keysH_any (mb : Option Nat) (w : World) : Calls Tryz.prog 131 #[.map mb] w fun e w' => e = .returned (.func (.func 223) #[] #[.pointer (some ⟨w.heap.size, 0, none⟩)]) ∧ w' = w.alloc (.cells #[.map mb] 172) := by
 go_enter Tryz.func131, Tryz.ntmps131
 go_wp2
 go_ret
 exact ⟨rfl, rfl⟩
theorem collectH_any (bx m : Nat) (ps : List (Tx × Value)) (w : World) (hx : bx < w.heap.size) (hb : w.cell? ⟨bx, 0, none⟩ = some (.map (some m))) (h : MapAt txE w m ps) (hl : ps.length ≤ 1000000) :
 Calls Tryz.prog 221 #[.func (.func 223) #[] #[.pointer (some ⟨bx, 0, none⟩)]] w fun e w' =>
  ∃ (v : Value) (ss : List Tx), e = .returned v ∧ ss.Perm (ps.map (·.1)) ∧ w'.ownsRow w.heap.size 42 3 v ss.length (ss.flatMap Tx.cells) ∧ (v = .slice none 0 0 ↔ ss = []) ∧ Below w.heap.size w w' :=
 callsIn_wide.1 (collectT_in Fence.wide 5 trivial trivial rfl (by omega) 223 #[.pointer (some ⟨bx, 0, none⟩)] trivial (enters_of Tryz.func223 (by kernel_rfl) rfl) _ ps.length hl w
  (keysH_gives Fence.wide _ trivial rfl (by omega) bx m ps w hx hb h))
end Go.Proofs.YtcmjgghkmdbphaaGreatDoor
namespace Go.Proofs.YtcmjgghkmdbphaaGreatDoor
open Go.RowKit
theorem tx_equal (a b : Tx) (w : World) : (Op.equal 42 (txE a) (txE b)).run Tryz.prog w = .ok (decide (a = b)) w := by
 have e : decide (a = b) = (a.node == b.node && (a.life == b.life && a.num == b.num)) := by
  obtain ⟨a1, a2, a3⟩ := a
  obtain ⟨b1, b2, b3⟩ := b
  rw [Bool.eq_iff_iff]
  simp
 rw [e]
 unfold txE
 have h1 : Tryz.prog.underlying 42 = some (.struct (Tryz.prog.fieldsOf 42)) := by kernel_rfl
 have h2 := Tryz.underlying3
 rw [show Op.equal 42 (.agg #[.int .i64 a.node, .int .i64 a.life, .int .i64 a.num]) (.agg #[.int .i64 b.node, .int .i64 b.life, .int .i64 b.num]) = Op.equalIn (9999 + 1) 42 (.agg #[.int .i64 a.node, .int .i64 a.life, .int .i64 a.num]) (.agg #[.int .i64 b.node, .int .i64 b.life, .int .i64 b.num]) from rfl,
  run_equalIn_agg w 9999 42 _ _ h1 Tryz.stoodInHeld42]
 have h3 : Tryz.prog.fieldsOf 42 = (match Tryz.prog.underlying 42 with | some (.struct fs) => fs | _ => #[]) := by kernel_rfl
 rw [h3, Tryz.underlying42]
 simp only [Op.eqFields]
 simp [go_sem, Tryz.isAgg3, Sem.run_bind, Sem.run_ite, run_equalIn_int _ 9998 3 .i64 .i64 _ _ h2, Result.andThen]
 by_cases c1 : a.node = b.node <;> by_cases c2 : a.life = b.life <;> by_cases c3 : a.num = b.num <;> simp [c1, c2, c3]
theorem tx_find (k : Tx) (w : World) : ∀ (es : List MapEntry) (ps : List (Tx × Value)) (i : Nat), es.map (fun e => (e.key, e.val)) = ps.map (fun p => (txE p.1, p.2)) → (Instr.findAsking 42 (txE k) es i).run Tryz.prog w = .ok (assocAt k ps i) w
 | [], ps, i, h => by
   cases ps with
   | nil => rfl
   | cons p ps => simp at h
 | e :: es, ps, i, h => by
   cases ps with
   | nil => simp at h
   | cons p ps =>
     simp only [List.map_cons, List.cons.injEq, Prod.mk.injEq] at h
     obtain ⟨⟨h1, h2⟩, h3⟩ := h
     unfold Instr.findAsking
     rw [Sem.run_bind, h1, tx_equal, Result.andThen_ok]
     unfold assocAt
     by_cases hk : k = p.1
     ·rw [decide_eq_true hk, if_pos rfl, if_pos hk, h2]; rfl
     ·rw [jd hk, if_neg (by simp), if_neg hk]
      exact tx_find k w es ps (i + 1) h3
theorem tx_key : KeyOk Tryz.prog 42 txE where
 check b k w := by
  rw [show (10000 : Nat) = 9999 + 1 from rfl, Instr.checkKey]
  have h3 : Tryz.prog.underlying 42 = some (.struct (match Tryz.prog.underlying 42 with | some (.struct fs) => fs | _ => #[])) := by kernel_rfl
  unfold txE
  simp [run_underlying Tryz.underlying42, go_sem, Tryz.isAgg3, Sem.run_bind, Result.andThen]
  have hc : ∀ n, (Instr.checkKey b 9999 3 (.int .i64 n)).run Tryz.prog w = .ok () w := fun n => by
   rw [show (9999 : Nat) = 9998 + 1 from rfl, Instr.checkKey]
   simp [run_underlying Tryz.underlying3]
  simp [hc]
 find k es ps w he := by
  unfold Instr.findKey
  rw [Sem.run_bind, run_underlying Tryz.underlying42, Result.andThen_ok]
  cases es with
  | nil =>
    cases ps with
    | nil => rfl
    | cons p ps => simp at he
  | cons e es =>
    have hn : ∀ fs, Instr.findNow (.struct fs) (txE k) (e :: es) 0 = none := fun fs => by
     unfold Instr.findNow Instr.sameNow txE
     rfl
    rw [hn]
    exact tx_find k w _ ps 0 he
 stays k w := by
  have h : ∀ n, Instr.sameBits (n + 2) (txE k) (txE k) = true := fun n => by
   unfold txE
   simp [Instr.sameBits]
  have h' : Instr.sameBits 10000 (txE k) (txE k) = true := h 9998
  simp [Instr.keyThatStays, h']
def MapV (w : World) (v : Value) (ps : List (Tx × Value)) : Prop := (v = .map none ∧ ps = []) ∨ ∃ m, v = .map (some m) ∧ MapAt txE w m ps
theorem MapV.ext {w w' : World} {v : Value} {ps : List (Tx × Value)} (h : MapV w v ps) (hb : Below w.heap.size w w') : MapV w' v ps := by
 rcases h with h | ⟨m, e, h⟩
 ·exact .inl h
 ·exact .inr ⟨m, e, h.ext hb⟩
def GotMap (w : World) (ps : List (Tx × Value)) (e : Ending) (w' : World) : Prop := ∃ m, e = .returned (.map (some m)) ∧ w.heap.size ≤ m ∧ MapAt txE w' m ps
theorem cloneH_at (m : Nat) (ps : List (Tx × Value)) (w : World) (h : MapAt txE w m ps) : Calls Tryz.prog 258 #[.map (some m)] w fun e w' => e = .returned (.map (some w.heap.size)) ∧ MapAt txE w' w.heap.size ps ∧ Below w.heap.size w w' := by
 obtain ⟨es, clk, h1, h2, h3, h4⟩ := h
 refine (AnyW.maps_Clone Tryz.cloneH m es clk w h1).mono ?_
 rintro e w' ⟨rfl, rfl⟩
 exact ⟨rfl, ⟨es, clk, heap_alloc_new w _, h2, h3, h4⟩, (jb _ _).al _⟩
theorem cloneH_nil (w : World) : Calls Tryz.prog 258 #[.map none] w fun e w' => e = .returned (.map none) ∧ w' = w := AnyW.maps_Clone_nil Tryz.cloneH w
theorem cloneI_at (m : Nat) (ps : List (Tx × Value)) (w : World) (h : MapAt txE w m ps) : Calls Tryz.prog 259 #[.map (some m)] w fun e w' => e = .returned (.map (some w.heap.size)) ∧ MapAt txE w' w.heap.size ps ∧ Below w.heap.size w w' := by
 obtain ⟨es, clk, h1, h2, h3, h4⟩ := h
 refine (AnyW.maps_Clone Tryz.cloneI m es clk w h1).mono ?_
 rintro e w' ⟨rfl, rfl⟩
 exact ⟨rfl, ⟨es, clk, heap_alloc_new w _, h2, h3, h4⟩, (jb _ _).al _⟩
theorem cloneI_nil (w : World) : Calls Tryz.prog 259 #[.map none] w fun e w' => e = .returned (.map none) ∧ w' = w := AnyW.maps_Clone_nil Tryz.cloneI w
theorem MapAt.new' {κ : Type} {enc : κ → Value} (X : World) (m : Nat) (h : m = X.heap.size) : MapAt enc (X.alloc (.map #[] 0)) m ([] : List (κ × Value)) := by subst h; exact MapAt.new X
theorem withH_any (v : Value) (ps : List (Tx × Value)) (t : Tx) (a0 a1 a2 b0 b1 b2 : Int) (k : Str) (pA fA : Option Addr) (pl pc fl fc : Nat) (w : World) (hv : MapV w v ps) : Calls Tryz.prog 173 #[v, txE t, .agg #[.int .i64 a0, .int .i64 a1, .int .i64 a2, .string k, .slice pA pl pc, .int .i64 b0, .int .i64 b1, .int .i64 b2, .slice fA fl fc]] w fun e w' => GotMap w (assocPut t (.agg #[.int .i64 a0, .int .i64 a1, .int .i64 a2, .string k, .slice pA pl pc, .int .i64 b0, .int .i64 b1, .int .i64 b2, .slice fA fl fc]) ps) e w' ∧ Below w.heap.size w w' := by
 have hmm := @run_makeMap Tryz.prog
 have hqn := fun w => run_eql_map_nil_sl (P := Tryz.prog) w 172 _ _ none Tryz.underlying172
 have hqs := fun (m : Nat) w => run_eql_map_nil_sl (P := Tryz.prog) w 172 _ _ (some m) Tryz.underlying172
 have CN := cloneH_nil
 have CA := cloneH_at
 unfold txE
 rcases hv with ⟨rfl, rfl⟩ | ⟨m, rfl, hM⟩
 ·go_enter Tryz.func173, Tryz.ntmps173
  go_wp2_with fail
  refine (CN _).mono ?_
  rintro e w' ⟨rfl, rfl⟩
  go_wp2_with (first
   | (at_mapUpdate; refine wpList_mapUpdate_map tx_key rfl rfl (.tmp 13) (.tmp 14) (.tmp 15) 172 rfl Tryz.underlying172 rfl (MapAt.new' _ _ (by simp)) t rfl _ rfl ?_; intro w4 hM4 hO4)
   | fail)
  go_ret
  refine ⟨⟨_, rfl, by omega, hM4⟩, ?_⟩
  refine Below.trans ?_ (hO4.low (fun g hg => by rw [hg]; omega) (by simp; omega))
  repeat (with_reducible first | assumption | exact jb _ _ | refine Below.al ?_ _ | refine Below.drew ?_ | apply Below.st1)
 ·have hml := hM.lt
  have B0 := (Blk.new w 42 [.int .i64 t.node, .int .i64 t.life, .int .i64 t.num]).alloc (.cells #[.int .i64 a0, .int .i64 a1, .int .i64 a2, .string k, .slice pA pl pc, .int .i64 b0, .int .i64 b1, .int .i64 b2, .slice fA fl fc] 192)
  have B1 := Blk.new1 w (.cells #[.int .i64 t.node, .int .i64 t.life, .int .i64 t.num] 42) 192 [.int .i64 a0, .int .i64 a1, .int .i64 a2, .string k, .slice pA pl pc, .int .i64 b0, .int .i64 b1, .int .i64 b2, .slice fA fl fc]
  go_enter Tryz.func173, Tryz.ntmps173
  go_wp2_with fail
  refine (CA m ps _ (hM.ext (by repeat (with_reducible first | assumption | exact jb _ _ | refine Below.al ?_ _ | refine Below.drew ?_ | apply Below.st1)))).mono ?_
  rintro e w' ⟨rfl, hM2, hb2⟩
  have hM2 : MapAt txE w' (w.heap.size + 1 + 1) ps := by simpa using hM2
  have B0 := B0.ext hb2
  have B1 := B1.ext hb2
  have hw2 := Below.tr (a := w) (by repeat (with_reducible first | assumption | exact jb _ _ | refine Below.al ?_ _ | refine Below.drew ?_ | apply Below.st1)) hb2
  have hz2 := hb2.size
  go_wp2_with (first
   | ((with_reducible refine wpList_load_blk rfl rfl ?_ B0 Tryz.underlying42 rfl (by kernel_rfl) ?_); · rfl)
   | ((with_reducible refine wpList_load_blk rfl rfl ?_ B1 Tryz.underlying192 rfl (by kernel_rfl) ?_); · rfl)
   | (at_mapUpdate; refine wpList_mapUpdate_map tx_key rfl rfl (.tmp 13) (.tmp 14) (.tmp 15) 172 rfl Tryz.underlying172 rfl hM2 t rfl _ rfl ?_; intro w4 hM4 hO4)
   | fail)
  go_ret
  exact ⟨⟨_, rfl, by omega, hM4⟩, hw2.trans (hO4.low (fun g hg => by rw [hg]; omega) hw2.size)⟩
theorem withI_any (v : Value) (ps : List (Tx × Value)) (t : Tx) (a0 : Int) (w : World) (hv : MapV w v ps) : Calls Tryz.prog 175 #[v, txE t, .int .i64 a0] w fun e w' => GotMap w (assocPut t (.int .i64 a0) ps) e w' ∧ Below w.heap.size w w' := by
 have hmm := @run_makeMap Tryz.prog
 have hqn := fun w => run_eql_map_nil_sl (P := Tryz.prog) w 174 _ _ none Tryz.underlying174
 have hqs := fun (m : Nat) w => run_eql_map_nil_sl (P := Tryz.prog) w 174 _ _ (some m) Tryz.underlying174
 have CN := cloneI_nil
 have CA := cloneI_at
 unfold txE
 rcases hv with ⟨rfl, rfl⟩ | ⟨m, rfl, hM⟩
 ·go_enter Tryz.func175, Tryz.ntmps175
  go_wp2_with fail
  refine (CN _).mono ?_
  rintro e w' ⟨rfl, rfl⟩
  go_wp2_with (first
   | (at_mapUpdate; refine wpList_mapUpdate_map tx_key rfl rfl (.tmp 13) (.tmp 14) (.tmp 15) 174 rfl Tryz.underlying174 rfl (MapAt.new' _ _ (by simp)) t rfl _ rfl ?_; intro w4 hM4 hO4)
   | fail)
  go_ret
  refine ⟨⟨_, rfl, by omega, hM4⟩, ?_⟩
  refine Below.trans ?_ (hO4.low (fun g hg => by rw [hg]; omega) (by simp; omega))
  repeat (with_reducible first | assumption | exact jb _ _ | refine Below.al ?_ _ | refine Below.drew ?_ | apply Below.st1)
 ·have hml := hM.lt
  have B0 := Blk.new w 42 [.int .i64 t.node, .int .i64 t.life, .int .i64 t.num]
  go_enter Tryz.func175, Tryz.ntmps175
  go_wp2_with fail
  refine (CA m ps _ (hM.ext (by repeat (with_reducible first | assumption | exact jb _ _ | refine Below.al ?_ _ | refine Below.drew ?_ | apply Below.st1)))).mono ?_
  rintro e w' ⟨rfl, hM2, hb2⟩
  have hM2 : MapAt txE w' (w.heap.size + 1) ps := by simpa using hM2
  have B0 := B0.ext hb2
  have hw2 := Below.tr (a := w) (by repeat (with_reducible first | assumption | exact jb _ _ | refine Below.al ?_ _ | refine Below.drew ?_ | apply Below.st1)) hb2
  have hz2 := hb2.size
  go_wp2_with (first
   | ((with_reducible refine wpList_load_blk rfl rfl ?_ B0 Tryz.underlying42 rfl (by kernel_rfl) ?_); · rfl)
   | (at_mapUpdate; refine wpList_mapUpdate_map tx_key rfl rfl (.tmp 13) (.tmp 14) (.tmp 15) 174 rfl Tryz.underlying174 rfl hM2 t rfl _ rfl ?_; intro w4 hM4 hO4)
   | fail)
  go_ret
  exact ⟨⟨_, rfl, by omega, hM4⟩, hw2.trans (hO4.low (fun g hg => by rw [hg]; omega) hw2.size)⟩
theorem withoutH_any (m : Nat) (ps : List (Tx × Value)) (t : Tx) (w : World) (hM : MapAt txE w m ps) : Calls Tryz.prog 174 #[.map (some m), txE t] w fun e w' => GotMap w (assocDel t ps) e w' ∧ Below w.heap.size w w' := by
 have CA := cloneH_at
 unfold txE
 have B0 := Blk.new w 42 [.int .i64 t.node, .int .i64 t.life, .int .i64 t.num]
 go_enter Tryz.func174, Tryz.ntmps174
 go_wp2_with fail
 refine (CA m ps _ (hM.ext (by repeat (with_reducible first | assumption | exact jb _ _ | refine Below.al ?_ _ | refine Below.drew ?_ | apply Below.st1)))).mono ?_
 rintro e w' ⟨rfl, hM2, hb2⟩
 have hM2 : MapAt txE w' (w.heap.size + 1) ps := by simpa using hM2
 have B0 := B0.ext hb2
 have hw2 := Below.tr (a := w) (by repeat (with_reducible first | assumption | exact jb _ _ | refine Below.al ?_ _ | refine Below.drew ?_ | apply Below.st1)) hb2
 have hz2 := hb2.size
 go_wp2_with (first
  | ((with_reducible refine wpList_load_blk rfl rfl ?_ B0 Tryz.underlying42 rfl (by kernel_rfl) ?_); · rfl)
  | (at_delete; go_loud (refine wpList_delete_map tx_key rfl (.tmp 8) (.tmp 9) 172 rfl Tryz.underlying172 rfl hM2 t rfl ?_); intro w4 hM4 hO4)
  | fail)
 go_ret
 exact ⟨⟨_, rfl, by omega, hM4⟩, hw2.trans (hO4.low (fun g hg => by rw [hg]; omega) hw2.size)⟩
end Go.Proofs.YtcmjgghkmdbphaaGreatDoor
namespace Go.Proofs.YtcmjgghkmdbphaaGreatDoor
open Go.RowKit
def BusyOk (g : Nat) (s : St) (w : World) : Prop := ∀ (n : Str) (W : World), sfit n → Below w.heap.size w W → Calls Tryz.prog 112 #[ptrV g, .string n] W fun e w' => e = .returned (.bool (busyS s n)) ∧ Below W.heap.size W w'
end Go.Proofs.YtcmjgghkmdbphaaGreatDoor
