/- the ring: split, set, laid around (plain law). records that may be; the invariant of a state (plain law). state.Apply: each kind of record. ring.Split. The library's search in records. state: iced, split. state.Locked. slices.Index and Contains at ranges; slices.Clip at records. -/
import Derived.Test.YtcmjgghkmdbphaaGreatDoorB16
import Derived.Test.YtcmjgghkmdbphaaGreatDoorB03
import Derived.Test.YtcmjgghkmdbphaaGreatDoorB15
import Derived.Test.YtcmjgghkmdbphaaGreatDoorB09
import Derived.Shelf.Spec.SlicesGrow
import Derived.Ground.Names8Prog
import Derived.Test.YtcmjgghkmdbphaaGreatDoorProg
import Derived.Test.YtcmjgghkmdbphaaGreatDoorB02
import Derived.Test.YtcmjgghkmdbphaaGreatDoorB01
import Derived.Test.YtcmjgghkmdbphaaGreatDoorB08
import Derived.Laws.AppendOwn
import Derived.Test.YtcmjgghkmdbphaaGreatDoorB12
set_option maxRecDepth 20000
set_option maxHeartbeats 25600000
namespace Go.Proofs.YtcmjgghkmdbphaaGreatDoor
open Go.RowKit
theorem idxI_spec {α : Type} (p : α → Bool) (l : List α) : (idxI p l = -1 ∧ ∀ a ∈ l, p a = false) ∨ ∃ a x b, l = a ++ x :: b ∧ (∀ y ∈ a, p y = false) ∧ p x = true ∧ idxI p l = a.length := by
 unfold idxI
 cases h : l.findIdx? p with
 | none => exact .inl ⟨rfl, by rw [List.findIdx?_eq_none_iff] at h; exact h⟩
 | some i =>
   right
   rw [List.findIdx?_eq_some_iff_getElem] at h
   obtain ⟨hi, hp, hb⟩ := h
   refine ⟨l.take i, l[i], l.drop (i + 1), ?_, ?_, hp, ?_⟩
   ·rw [← List.drop_eq_getElem_cons hi, List.take_append_drop]
   ·intro y hy
    obtain ⟨j, hj, rfl⟩ := List.getElem_of_mem hy
    rw [List.length_take] at hj
    rw [List.getElem_take]
    have := hb j (by omega)
    simpa using this
   ·rw [List.length_take]; simp only [Int.natCast_inj]; omega
theorem has_iff {r : Range} {h : Int} : r.has h = true ↔ r.first ≤ h ∧ h ≤ r.last := by
 simp only [Range.has, Bool.and_eq_true, decide_eq_true_eq]
theorem ownedB_iff {r : Range} : ownedB r = true ↔ 1 ≤ r.owner ∧ r.owner ≤ 5 ∧ 1 ≤ r.epoch ∧ r.epoch ≤ 1099511627776 := by
 simp only [ownedB, Bool.and_eq_true, decide_eq_true_eq]
theorem soundF_cons {r : Range} {l : List Range} {n m : Int} : soundFrom (r :: l) n = some m ↔ (r.first = n ∧ n ≤ r.last ∧ r.last ≤ 4294967295 ∧ ownedB r = true) ∧ soundFrom l (r.last + 1) = some m := by
 simp only [soundFrom]
 by_cases h : r.first = n ∧ n ≤ r.last ∧ r.last ≤ 4294967295 ∧ ownedB r = true
 ·rw [if_pos h]; simp [h]
 ·rw [if_neg h]
  constructor
  ·intro q; cases q
  ·intro q; exact (h q.1).elim
theorem soundFrom_app {a b : List Range} {n m : Int} : soundFrom (a ++ b) n = some m ↔ ∃ k, soundFrom a n = some k ∧ soundFrom b k = some m := by
 induction a generalizing n with
 | nil => simp [soundFrom]
 | cons r a ih =>
   rw [List.cons_append, soundF_cons, ih]
   constructor
   ·rintro ⟨h, k, h1, h2⟩; exact ⟨k, soundF_cons.2 ⟨h, h1⟩, h2⟩
   ·rintro ⟨k, h1, h2⟩; rw [soundF_cons] at h1; exact ⟨h1.1, k, h1.2, h2⟩
theorem soundFrom_le {l : List Range} {n m : Int} (h : soundFrom l n = some m) : n ≤ m := by
 induction l generalizing n with
 | nil => simp [soundFrom] at h; omega
 | cons r l ih => rw [soundF_cons] at h; have := ih h.2; omega
theorem soundFrom_mem {l : List Range} {n m : Int} (h : soundFrom l n = some m) {x : Range} (hx : x ∈ l) : n ≤ x.first ∧ x.first ≤ x.last ∧ x.last < m ∧ x.last ≤ 4294967295 ∧ ownedB x = true := by
 induction l generalizing n with
 | nil => cases hx
 | cons r l ih =>
   rw [soundF_cons] at h
   rcases List.mem_cons.1 hx with rfl | hx
   ·have := soundFrom_le h.2; exact ⟨by omega, by omega, by omega, by omega, h.1.2.2.2⟩
   ·have := ih h.2 hx; exact ⟨by omega, by omega, by omega, by omega, this.2.2.2.2⟩
theorem soundFrom_cover {l : List Range} {n m : Int} (h : soundFrom l n = some m) {k : Int} (h1 : n ≤ k) (h2 : k < m) : ∃ x ∈ l, x.has k = true := by
 induction l generalizing n with
 | nil => simp [soundFrom] at h; omega
 | cons r l ih =>
   rw [soundF_cons] at h
   by_cases hk : k ≤ r.last
   ·exact ⟨r, by simp, has_iff.2 ⟨by omega, hk⟩⟩
   ·obtain ⟨x, hx, h3⟩ := ih h.2 (by omega)
    exact ⟨x, by simp [hx], h3⟩
theorem soundFrom_uniq {l : List Range} {n m : Int} (h : soundFrom l n = some m) {x y : Range} (hx : x ∈ l) (hy : y ∈ l) {k : Int} (h1 : x.has k = true) (h2 : y.has k = true) : x = y := by
 rw [has_iff] at h1 h2
 induction l generalizing n with
 | nil => cases hx
 | cons r l ih =>
   rw [soundF_cons] at h
   rcases List.mem_cons.1 hx with ex | hx' <;> rcases List.mem_cons.1 hy with ey | hy'
   ·rw [ex, ey]
   ·have := soundFrom_mem h.2 hy'; subst ex; omega
   ·have := soundFrom_mem h.2 hx'; subst ey; omega
   ·exact ih h.2 hx' hy'
theorem sound_iff {l : List Range} : soundR l = true ↔ soundFrom l 0 = some 4294967296 ∧ l.length ≤ 64 := by
 simp only [soundR, Bool.and_eq_true, decide_eq_true_eq]
theorem at_spec {l : List Range} (hs : soundR l = true) {h : Int} (h0 : 0 ≤ h) (h1 : h < 4294967296) : ∃ a x b, l = a ++ x :: b ∧ x.has h = true ∧ atR l h = a.length ∧ findR l h = (x, true) := by
 obtain ⟨x, hx, hh⟩ := soundFrom_cover (sound_iff.1 hs).1 h0 h1
 have ha : atR l h = idxI (fun r => r.has h) l := by unfold atR; rw [if_pos hs]
 rcases idxI_spec (fun r : Range => r.has h) l with ⟨_, hn⟩ | ⟨a, y, b, hl, _, hy, hi⟩
 ·rw [hn x hx] at hh; cases hh
 ·refine ⟨a, y, b, hl, hy, by rw [ha, hi], ?_⟩
  unfold findR
  rw [ha, hi, if_neg (by omega), hl]
  simp
theorem find_eq {l : List Range} (hs : soundR l = true) {h : Int} (h0 : 0 ≤ h) (h1 : h < 4294967296) {x : Range} (hx : x ∈ l) (hh : x.has h = true) : findR l h = (x, true) := by
 obtain ⟨a, y, b, hl, hy, _, hf⟩ := at_spec hs h0 h1
 rw [hf, soundFrom_uniq (sound_iff.1 hs).1 hx (by rw [hl]; simp) hh hy]
theorem find_mem {l : List Range} {h : Int} (hf : (findR l h).2 = true) : (findR l h).1 ∈ l ∧ (findR l h).1.has h = true ∧ soundR l = true := by
 unfold findR at hf ⊢
 split at hf
 ·cases hf
 ·rename_i hn
  rw [if_neg hn]
  unfold atR at hn ⊢
  split at hn
  ·rename_i hs
   rw [if_pos hs]
   rcases idxI_spec (fun r : Range => r.has h) l with ⟨hi, _⟩ | ⟨a, y, b, hl, _, hy, hi⟩
   ·omega
   ·rw [hi]
    have hg : l.getD ((a.length : Int)).toNat zeroRange = y := by rw [hl]; simp
    simp only [hg]
    exact ⟨by rw [hl]; simp, hy, hs⟩
  ·omega
theorem at_nonneg {l : List Range} {h : Int} (hn : ¬ atR l h < 0) : ∃ a x b, l = a ++ x :: b ∧ x.has h = true ∧ atR l h = a.length ∧ soundR l = true := by
 unfold atR at hn ⊢
 split at hn
 ·rename_i hs
  rw [if_pos hs]
  rcases idxI_spec (fun r : Range => r.has h) l with ⟨hi, _⟩ | ⟨a, y, b, hl, _, hy, hi⟩
  ·omega
  ·exact ⟨a, y, b, hl, hy, hi, hs⟩
 ·omega
theorem split_spec {l : List Range} {h : Int} (hz : (splitR l h).2 = 0) : ∃ a x b, l = a ++ x :: b ∧ x.has h = true ∧ x.first ≠ h ∧ (splitR l h).1 = a ++ [{ x with last := h - 1, epoch := x.epoch + 1 }, { x with first := h, epoch := x.epoch + 1 }] ++ b ∧ soundR (splitR l h).1 = true ∧ soundR l = true := by
 by_cases hc : atR l h < 0 ∨ (l.getD (atR l h).toNat zeroRange).first = h ∨ (l.getD (atR l h).toNat zeroRange).epoch = 1099511627776
 ·unfold splitR at hz; simp only [if_pos hc] at hz; cases hz
 ·by_cases hc2 : 64 ≤ l.length
  ·unfold splitR at hz; simp only [if_neg hc, if_pos hc2] at hz; cases hz
  ·have he : splitR l h = (l.take (atR l h).toNat ++ ([{ l.getD (atR l h).toNat zeroRange with last := h - 1, epoch := (l.getD (atR l h).toNat zeroRange).epoch + 1 }, { l.getD (atR l h).toNat zeroRange with first := h, epoch := (l.getD (atR l h).toNat zeroRange).epoch + 1 }] ++ l.drop ((atR l h).toNat + 1)), 0) := by
    unfold splitR; simp only [if_neg hc, if_neg hc2]
   simp only [not_or] at hc
   obtain ⟨a, x, b, hl, hx, hi, hs⟩ := at_nonneg hc.1
   rw [he]
   rw [hi] at hc ⊢
   have hg : l.getD ((a.length : Int)).toNat zeroRange = x := by rw [hl]; simp
   rw [hg] at hc ⊢
   have ht : l.take (a.length : Int).toNat = a := by rw [hl]; simp
   have hd : l.drop ((a.length : Int).toNat + 1) = b := by rw [hl]; simp
   rw [ht, hd]
   have hS := sound_iff.1 hs
   refine ⟨a, x, b, hl, hx, hc.2.1, by simp, ?_, hs⟩
   rw [sound_iff]
   obtain ⟨h1, h2⟩ := hS
   rw [hl] at h1 hc2
   rw [soundFrom_app] at h1
   obtain ⟨k, h3, h4⟩ := h1
   rw [soundF_cons] at h4
   rw [has_iff] at hx
   have ho := ownedB_iff.1 h4.1.2.2.2
   refine ⟨soundFrom_app.2 ⟨k, h3, ?_⟩, by simp at hc2 ⊢; omega⟩
   show soundFrom (_ :: _ :: b) k = _
   rw [soundF_cons, soundF_cons]
   refine ⟨⟨h4.1.1, ?_, ?_, ownedB_iff.2 ⟨ho.1, ho.2.1, ?_, ?_⟩⟩, ⟨?_, ?_, h4.1.2.2.1, ownedB_iff.2 ⟨ho.1, ho.2.1, ?_, ?_⟩⟩, h4.2⟩ <;> simp only [] <;> omega
theorem set_spec {l : List Range} {r : Range} (hz : (setR l r).2 = 0) : ∃ a x b, l = a ++ x :: b ∧ x.first = r.first ∧ x.last = r.last ∧ (setR l r).1 = a ++ r :: b ∧ soundR (setR l r).1 = true ∧ soundR l = true ∧ ownedB r = true := by
 unfold setR at hz ⊢
 by_cases hs : soundR l = false
 ·simp only [hs] at hz; simp at hz
 ·simp only [if_neg hs] at hz ⊢
  by_cases hc : atR l r.first < 0 ∨ (l.getD (atR l r.first).toNat zeroRange).first ≠ r.first ∨ (l.getD (atR l r.first).toNat zeroRange).last ≠ r.last
  ·simp only [if_pos hc] at hz; cases hz
  ·simp only [if_neg hc] at hz ⊢
   by_cases ho : ownedB r = false
   ·simp only [if_pos ho] at hz; cases hz
   ·simp only [if_neg ho] at hz ⊢
    simp only [not_or, Decidable.not_not] at hc
    obtain ⟨a, x, b, hl, hx, hi, hs'⟩ := at_nonneg hc.1
    rw [hi] at hc ⊢
    have hg : l.getD ((a.length : Int)).toNat zeroRange = x := by rw [hl]; simp
    rw [hg] at hc
    have hset : l.set (a.length : Int).toNat r = a ++ r :: b := by rw [hl]; simp
    rw [hset]
    refine ⟨a, x, b, hl, hc.2.1, hc.2.2, rfl, ?_, hs', by simpa using ho⟩
    obtain ⟨h1, h2⟩ := sound_iff.1 hs'
    rw [hl] at h1 h2
    rw [soundFrom_app] at h1
    obtain ⟨k, h3, h4⟩ := h1
    rw [soundF_cons] at h4
    rw [sound_iff]
    refine ⟨soundFrom_app.2 ⟨k, h3, soundF_cons.2 ⟨⟨by omega, by omega, by omega, by simpa using ho⟩, ?_⟩⟩, by simpa using h2⟩
    rw [← hc.2.2]; exact h4.2
def posR (r : Range) (n : Int) : Int := if r.first < n then max n (r.last + 1) else n
theorem around_sound {r : Range} (hr : r.first ≤ r.last) (hm : r.last ≤ 4294967295) (ho : ownedB r = true) : ∀ (l : List Range) (n m : Int), soundFrom l n = some m → soundFrom (aroundR l r) (posR r n) = some (posR r m)
 | [], n, m, h => by simp [soundFrom] at h; subst h; rfl
 | x :: l, n, m, h => by
   rw [soundF_cons] at h
   obtain ⟨⟨h1, h2, h3, h4⟩, h5⟩ := h
   have ih := around_sound hr hm ho l _ _ h5
   have hxo : ∀ a b, ownedB { x with first := a, last := b } = true := fun a b => h4
   show soundFrom (aroundX r x ++ aroundR l r) _ = _
   rw [soundFrom_app]
   refine ⟨posR r (x.last + 1), ?_, ih⟩
   unfold aroundX posR
   dsimp only
   by_cases c1 : r.first < n
   ·rw [if_pos c1, if_neg (show ¬ x.first ≤ min x.last (r.first - 1) by omega), if_neg (show ¬ (x.first ≤ r.first ∧ r.first ≤ x.last) by omega), if_pos (show r.first < x.last + 1 by omega)]
    simp only [List.nil_append]
    by_cases c2 : max x.first (r.last + 1) ≤ x.last
    ·rw [if_pos c2, soundF_cons]
     exact ⟨⟨by show max x.first _ = _; omega, by show _ ≤ x.last; omega, h3, h4⟩, by simp only [soundFrom, Option.some.injEq]; omega⟩
    ·rw [if_neg c2]; simp only [soundFrom, Option.some.injEq]; omega
   ·rw [if_neg c1]
    by_cases c2 : r.first ≤ x.last
    ·rw [if_pos (by omega : r.first < x.last + 1), if_pos (⟨by omega, c2⟩ : x.first ≤ r.first ∧ r.first ≤ x.last)]
     have hmid : ∀ q, soundFrom q (r.last + 1) = some (max (x.last + 1) (r.last + 1)) → soundFrom ([r] ++ q) r.first = some (max (x.last + 1) (r.last + 1)) := fun q hq => by
      show soundFrom (r :: q) _ = _
      rw [soundF_cons]; exact ⟨⟨rfl, hr, hm, ho⟩, hq⟩
     have hhigh : soundFrom (if max x.first (r.last + 1) ≤ x.last then [{ x with first := max x.first (r.last + 1) }] else []) (r.last + 1) = some (max (x.last + 1) (r.last + 1)) := by
      by_cases c3 : max x.first (r.last + 1) ≤ x.last
      ·rw [if_pos c3, soundF_cons]
       exact ⟨⟨by show max x.first _ = _; omega, by show _ ≤ x.last; omega, h3, h4⟩, by simp only [soundFrom, Option.some.injEq]; omega⟩
      ·rw [if_neg c3]; simp only [soundFrom, Option.some.injEq]; omega
     by_cases c3 : x.first ≤ min x.last (r.first - 1)
     ·rw [if_pos c3]
      show soundFrom (_ :: ([r] ++ _)) n = _
      rw [soundF_cons]
      refine ⟨⟨h1, by show n ≤ min x.last _; omega, by show min x.last _ ≤ _; omega, h4⟩, ?_⟩
      rw [show (min x.last (r.first - 1)) + 1 = r.first by omega]
      exact hmid _ hhigh
     ·rw [if_neg c3, List.nil_append, show n = r.first by omega]
      exact hmid _ hhigh
    ·rw [if_neg (by omega : ¬ r.first < x.last + 1), if_pos (by omega : x.first ≤ min x.last (r.first - 1)), if_neg (fun q : x.first ≤ r.first ∧ r.first ≤ x.last => c2 q.2), if_neg (show ¬ max x.first (r.last + 1) ≤ x.last by omega)]
     show soundFrom (_ :: []) n = _
     rw [soundF_cons]
     exact ⟨⟨h1, by show n ≤ min x.last _; omega, by show min x.last _ ≤ _; omega, h4⟩, by simp only [soundFrom, Option.some.injEq]; show min x.last _ + 1 = _; omega⟩
theorem around_ok {l : List Range} {r : Range} (hs : soundR l = true) (h0 : 0 ≤ r.first) (hr : r.first ≤ r.last) (hm : r.last ≤ 4294967295) (ho : ownedB r = true) (hl : (aroundR l r).length ≤ 64) : soundR (aroundR l r) = true := by
 rw [sound_iff]
 have := around_sound hr hm ho l _ _ (sound_iff.1 hs).1
 rw [show posR r 0 = 0 by unfold posR; rw [if_neg (by omega)], show posR r 4294967296 = 4294967296 by unfold posR; rw [if_pos (by omega)]; omega] at this
 exact ⟨this, hl⟩
theorem around_out {l : List Range} {r x : Range} {h : Int} (hx : x ∈ l) (hh : x.has h = true) (hr : r.has h = false) : ∃ y ∈ aroundR l r, y.has h = true ∧ y.owner = x.owner ∧ y.epoch = x.epoch := by
 have hn : ¬ (r.first ≤ h ∧ h ≤ r.last) := fun q => by rw [has_iff.2 q] at hr; cases hr
 rw [has_iff] at hh
 have hin : ∀ y, y ∈ aroundX r x → y ∈ aroundR l r := fun y hy => List.mem_flatMap.2 ⟨x, hx, hy⟩
 by_cases c : h < r.first
 ·refine ⟨{ x with last := min x.last (r.first - 1) }, hin _ ?_, has_iff.2 ⟨hh.1, by show h ≤ min _ _; omega⟩, rfl, rfl⟩
  unfold aroundX
  simp only [List.mem_append]
  left
  rw [if_pos (by omega)]
  simp
 ·refine ⟨{ x with first := max x.first (r.last + 1) }, hin _ ?_, has_iff.2 ⟨by show max _ _ ≤ h; omega, hh.2⟩, rfl, rfl⟩
  unfold aroundX
  simp only [List.mem_append]
  right; right
  rw [if_pos (by omega)]
  simp
end Go.Proofs.YtcmjgghkmdbphaaGreatDoor
namespace Go.Proofs.YtcmjgghkmdbphaaGreatDoor
open Go.RowKit
theorem checkR_iff {r : Rec} : checkR r = 0 ↔ namedK r.kind = true ∧ spareB r (fieldsF r.kind) = true ∧ headBad r (fieldsF r.kind) = false ∧ listsBad r (fieldsF r.kind) = false := by
 unfold checkR recB
 cases namedK r.kind <;> cases spareB r (fieldsF r.kind) <;> cases headBad r (fieldsF r.kind) <;> cases listsBad r (fieldsF r.kind) <;> simp
theorem checkR_kind {r : Rec} (h : checkR r = 0) : 1 ≤ r.kind ∧ r.kind ≤ 11 := by
 have := (checkR_iff.1 h).1
 simpa [namedK] using this
theorem checkR_batch {r : Rec} (h : checkR r = 0) (hk : r.kind = 3 ∨ r.kind = 4) : checkB r.batch = 0 ∧ soundB r.stamp = true := by
 have := (checkR_iff.1 h).2.2.1
 rcases hk with hk | hk <;> (rw [hk] at this; simp [headBad, fieldsF] at this)
 ·exact this
 ·exact this.2
theorem checkR_stamp {r : Rec} (h : checkR r = 0) (hk : r.kind = 5 ∨ r.kind = 6) : soundB r.stamp = true := by
 have := (checkR_iff.1 h).2.2.1
 rcases hk with hk | hk <;> (rw [hk] at this; simp [headBad, fieldsF] at this) <;> exact this.2
theorem checkR_span {r : Rec} (h : checkR r = 0) (hk : r.kind = 9 ∨ r.kind = 10 ∨ r.kind = 11) : 0 ≤ r.range.first ∧ 0 ≤ r.range.last ∧ 0 ≤ r.range.owner ∧ 0 ≤ r.range.epoch := by
 have := (checkR_iff.1 h).2.2.1
 rcases hk with hk | hk | hk <;> (rw [hk] at this; simp [headBad, fieldsF, inW] at this) <;> omega
def lifeS (s : St) (r : Rec) : St × Int := if r.n ≤ s.life then (s, 1) else ({ s with life := r.n }, 0)
def ceilS (s : St) (r : Rec) : St × Int := if r.n ≤ s.ceiling then (s, 1) else ({ s with ceiling := r.n }, 0)
def doS (s : St) (r : Rec) : St × Int :=
 if r.kind = 1 then lifeS s r else if r.kind = 2 then ceilS s r else if r.kind = 3 then commitS s r else if r.kind = 4 then prepareS s r else if r.kind = 5 then decideS s r
 else if r.kind = 6 then outcomeS s r else if r.kind = 7 then forgetS s r else if r.kind = 8 then splitS s r else if r.kind = 9 then freezeS s r else if r.kind = 10 then installS s r else releaseS s r
def applyS (s : St) (r : Rec) : St × Int := if checkR r ≠ 0 then (s, checkR r) else doS s r
def heldD (l : List (Tx × Held)) : Nat := (l.map fun p => sumD p.2.batch.puts).sum
def costR (r : Rec) : Nat := sumD r.batch.puts + (r.streams.map fun s => s.events.length + s.keys.length + 1).sum
structure HeldOk (s : St) (h : Held) : Prop where
 check : checkB h.batch = 0
 firsts : h.firsts = firstsT s.table h.batch.puts
 serves : ∀ p ∈ h.batch.puts, servesS s p.stream = true
 warm : ∀ p ∈ h.batch.puts, ∀ f ∈ s.frozen, f.range.has (hashS p.stream) = false
def Apart (p q : Tx × Held) : Prop := ∀ a ∈ p.2.batch.puts, ∀ b ∈ q.2.batch.puts, a.stream ≠ b.stream
structure Inv (s : St) (N : Nat) : Prop where
 self : 1 ≤ s.self ∧ s.self ≤ s.nodes ∧ s.nodes ≤ 5
 ring : soundR s.ring = true
 tab : s.table.Ok
 size : s.table.length + heldD s.held ≤ N
 evs : ∀ n, (evT s.table n).length + heldD s.held ≤ N
 kys : ∀ n, (kyT s.table n).length + heldD s.held ≤ N
 log : s.log.length + heldD s.held ≤ N
 held : ∀ p ∈ s.held, HeldOk s p.2
 apart : s.held.Pairwise Apart
 nd : (s.held.map (·.1)).Nodup
 frozen : ∀ f ∈ s.frozen, f.range ∈ s.ring ∧ f.range.owner = s.self ∧ f.to ≠ s.self
 fnd : (s.frozen.map Rec.range).Nodup
theorem Inv.mono {s : St} {N M : Nat} (h : Inv s N) (hm : N ≤ M) : Inv s M :=
 { h with size := Nat.le_trans h.size hm, evs := fun n => Nat.le_trans (h.evs n) hm, kys := fun n => Nat.le_trans (h.kys n) hm, log := Nat.le_trans h.log hm }
theorem serves_iff {s : St} (hs : soundR s.ring = true) (n : Str) : servesS s n = true ↔ ∃ x ∈ s.ring, x.has (hashS n) = true ∧ x.owner = s.self := by
 have hb := hashS_bd n
 obtain ⟨a, x, b, hl, hx, _, hf⟩ := at_spec hs hb.1 hb.2
 unfold servesS ofR
 rw [hf]
 simp only [Bool.true_and, decide_eq_true_eq]
 constructor
 ·intro h; exact ⟨x, by rw [hl]; simp, hx, h⟩
 ·rintro ⟨y, hy, h1, h2⟩
  rw [← h2, soundFrom_uniq (sound_iff.1 hs).1 (show x ∈ s.ring by rw [hl]; simp) hy hx h1]
theorem mayP_zero {s : St} {l : List Put} (h : mayP s l = 0) : ∀ p ∈ l, servesS s p.stream = true ∧ busyS s p.stream = false := by
 induction l with
 | nil => simp
 | cons p l ih =>
   unfold mayP at h
   split at h
   ·omega
   ·rename_i h1
    split at h
    ·omega
    ·rename_i h2
     intro q hq
     rcases List.mem_cons.1 hq with rfl | hq
     ·exact ⟨by simpa using h1, by simpa using h2⟩
     ·exact ih h q hq
theorem mayV_zero {T : Tab} {l : List Put} {f : List Int} (h : (mayV T l f).2.2 = 0) : (mayV T l f).1 = f ++ firstsT T l ∧ ∀ p ∈ l, p.expect = -1 ∨ p.expect = versionT T p.stream := by
 induction l generalizing f with
 | nil => simp [mayV, firstsT]
 | cons p l ih =>
   unfold mayV at h ⊢
   split at h
   ·cases h
   ·rename_i hc
    rw [if_neg hc]
    obtain ⟨h1, h2⟩ := ih h
    refine ⟨by rw [h1]; simp [firstsT], fun q hq => ?_⟩
    rcases List.mem_cons.1 hq with rfl | hq
    ·by_cases c : q.expect = -1
     ·exact .inl c
     ·exact .inr (Decidable.byContradiction fun c2 => hc ⟨c, c2⟩)
    ·exact h2 q hq
theorem mayS_zero {s : St} {b : Batch} (h : (mayS s b).2.2 = 0) : checkB b = 0 ∧ (∀ p ∈ b.puts, servesS s p.stream = true ∧ busyS s p.stream = false) ∧ (knownS s b).2.2 = 0 ∧ (mayS s b).1 = firstsT s.table b.puts ∧ ∀ p ∈ b.puts, p.expect = -1 ∨ p.expect = versionT s.table p.stream := by
 unfold mayS at h ⊢
 split at h
 ·rename_i h1; exact absurd h h1
 ·rename_i h1
  rw [if_neg h1]
  split at h
  ·rename_i h2; exact absurd h h2
  ·rename_i h2
   rw [if_neg h2]
   split at h
   ·rename_i h3; exact absurd h h3
   ·rename_i h3
    rw [if_neg h3]
    obtain ⟨h4, h5⟩ := mayV_zero h
    exact ⟨by omega, mayP_zero (by omega), by omega, by simpa using h4, h5⟩
theorem putA_len {κ β : Type} [DecidableEq κ] (k : κ) (v : β) (l : List (κ × β)) : (putA k v l).length ≤ l.length + 1 := by
 induction l with
 | nil => simp [putA]
 | cons p l ih => obtain ⟨x, u⟩ := p; unfold putA; split <;> simp; omega
theorem appendT_len (k : Str) (l : List Event) (T : Tab) : (appendT k l T).1.length ≤ T.length + 1 ∧ ∀ n, (kyT (appendT k l T).1 n).length ≤ (kyT T n).length + 1 := by
 unfold appendT
 cases l with
 | nil => exact ⟨by simp, fun n => by simp⟩
 | cons e l =>
   dsimp only
   split
   ·exact ⟨by simp, fun n => by simp⟩
   ·split
    ·exact ⟨by simp, fun n => by simp⟩
    ·refine ⟨putA_len _ _ _, fun n => ?_⟩
     rw [kyT_put]
     split
     ·rename_i hn; subst hn
      rw [ts_getD]
      unfold addKey
      split
      ·exact putA_len _ _ _
      ·simp
     ·omega
theorem putP_len (k : Str) : ∀ (l : List Put) (E : List Event) (T : Tab), (putP k l E T).length ≤ T.length + l.length ∧ ∀ n, (kyT (putP k l E T) n).length ≤ (kyT T n).length + l.length
 | [], E, T => ⟨by simp [putP], fun n => by simp [putP]⟩
 | p :: l, E, T => by
   obtain ⟨h1, h2⟩ := appendT_len k (E.take p.data.length) T
   obtain ⟨h3, h4⟩ := putP_len k l (E.drop p.data.length) (appendT k (E.take p.data.length) T).1
   unfold putP
   refine ⟨by rw [List.length_cons]; omega, fun n => ?_⟩
   have := h2 n; have := h4 n
   rw [List.length_cons]; omega
theorem fresh_len {T : Tab} (hT : T.Ok) : (freshT T).length = T.length ∧ ∀ n, (kyT (freshT T) n).length = (kyT T n).length := by
 obtain ⟨hL, hO⟩ := fresh_like hashS_bd hT
 refine ⟨?_, fun n => ?_⟩
 ·have := (perm_of_mem hO.nd hT.nd (like_mem hL)).length_eq
  simpa using this
 ·have hn := hL n
  have h1 := ev_ok hO n
  have h2 := ev_ok hT n
  have : ((kyT (freshT T) n).map (·.1)).Perm ((kyT T n).map (·.1)) := by
   refine perm_of_mem h1.2.2.2 h2.2.2.2 fun x => ?_
   have e : getA x (kyT (freshT T) n) = getA x (kyT T n) := by
    unfold kyT
    cases h3 : getA n (freshT T) <;> cases h4 : getA n T <;> rw [h3, h4] at hn
    ·exact hn.elim
    ·exact hn.elim
    ·exact hn.2 x
   cases h : getA x (kyT T n) with
   | none =>
     rw [h] at e
     exact ⟨fun q => absurd q (getA_none.1 e), fun q => absurd q (getA_none.1 h)⟩
   | some y =>
     rw [h] at e
     exact ⟨fun _ => List.mem_map.2 ⟨_, getA_mem h, rfl⟩, fun _ => List.mem_map.2 ⟨_, getA_mem e, rfl⟩⟩
  simpa using this.length_eq
theorem puts_le_sum {l : List Put} (h : ∀ p ∈ l, PutOk p) : l.length ≤ sumD l := by
 induction l with
 | nil => simp
 | cons p l ih =>
   have h1 := ih fun q hq => h q (by simp [hq])
   have h2 : p.data.length ≠ 0 := fun e => (h p (by simp)).full (List.length_eq_zero_iff.1 e)
   simp only [sumD, List.map_cons, List.sum_cons, List.length_cons] at *
   omega
theorem sumD_le {l : List Put} (h : ∀ p ∈ l, PutOk p) : sumD l ≤ 20 * l.length := by
 induction l with
 | nil => simp [sumD]
 | cons p l ih =>
   have h1 := ih fun q hq => h q (by simp [hq])
   have h2 := (h p (by simp)).few
   simp only [sumD, List.map_cons, List.sum_cons, List.length_cons] at *
   omega
structure PutS (s : St) (b : Batch) (st : Stamp) (s' : St) : Prop where
 rest : s' = { s with table := s'.table, log := s'.log }
 ok : s'.table.Ok
 log : s'.log = s.log ++ makeB b (firstsT s.table b.puts) st 0
 evs : ∀ n, evT s'.table n = evT s.table n ++ (makeB b (firstsT s.table b.puts) st 0).filter fun e => decide (e.stream = n)
 knows : ∀ n x, knownT s'.table n x = knowsT s.table b.key st (b.puts.any fun p => decide (p.stream = n)) n x
 size : s'.table.length ≤ s.table.length + b.puts.length
 kys : ∀ n, (kyT s'.table n).length ≤ (kyT s.table n).length + b.puts.length
theorem firsts_like {T T' : Tab} (h : T.Like T') (l : List Put) : firstsT T l = firstsT T' l := List.map_congr_left fun p _ => by rw [TS.Like.version h]
theorem putS_spec {s : St} {b : Batch} {st : Stamp} (hT : s.table.Ok) (hc : checkB b = 0) (hst : soundB st = true) (hv : ∀ n, (evT s.table n).length ≤ 1000000) : PutS s b st (putS s b (firstsT s.table b.puts) st) := by
 obtain ⟨hL, hO⟩ := fresh_like hashS_bd hT
 have hg := checkB_good hc
 have hp := hg.putOk
 have h1 := sumD_le hp
 have h2 := hg.few
 have e := firsts_like hL b.puts
 obtain ⟨a1, a2, a3⟩ := putP_spec (k := b.key) (st := st) hg.key hst b.puts 0 (freshT s.table) hO (checkB_dist hc) hp (fun n => by
  have := hv n
  rw [version_ev, like_ev hL]; omega) (by omega)
 rw [e] at a1 a2 a3
 obtain ⟨l1, l2⟩ := putP_len b.key b.puts (makeB b (firstsT s.table b.puts) st 0) (freshT s.table)
 obtain ⟨f1, f2⟩ := fresh_len hT
 refine ⟨rfl, a1, rfl, fun n => ?_, fun n x => ?_, by show (putP _ _ _ _).length ≤ _; omega, fun n => by have := l2 n; have := f2 n; show (kyT (putP _ _ _ _) n).length ≤ _; omega⟩
 ·show evT (putP _ _ _ _) n = _
  rw [show makeB b (firstsT s.table b.puts) st 0 = makeF b.puts (firstsT s.table b.puts) st 0 0 from rfl, a2, like_ev hL]
 ·show knownT (putP _ _ _ _) n x = _
  rw [show makeB b (firstsT s.table b.puts) st 0 = makeF b.puts (firstsT s.table b.puts) st 0 0 from rfl, a3]
  unfold knowsT
  rw [TS.Like.known hL, TS.Like.known hL, TS.Like.version hL]
end Go.Proofs.YtcmjgghkmdbphaaGreatDoor
namespace Go.Proofs.YtcmjgghkmdbphaaGreatDoor
open Go.RowKit
theorem commit_out (g : Nat) (s : St) (r : Rec) (nA pA sA : Option Addr) (nc pc sc : Nat) (P Q : Nat → Prop) (w : World) (h : StAt w P g s) (hg : ¬ P g) (hF : Fit s)
 (hr : RecAt w Q r nA nc pA pc sA sc) (hQ : ¬ Q g) (hl : r.batch.puts.length ≤ 1000000) (hd : ∀ p ∈ r.batch.puts, p.data.length ≤ 1000000) (hT : Tabs w) (h2 : 2 ≤ g) :
 Calls Tryz.prog 89 #[ptrV g, .agg (r.cells nA nc pA pc sA sc).toArray] w (StOut w P g (commitS s r)) :=
 (commit_any g s r nA pA sA nc pc sc P Q w h hg hF.fair (hF.seen h) hr hQ hl hd hT h2).mono fun _ _ h => h.out
end Go.Proofs.YtcmjgghkmdbphaaGreatDoor
namespace Go.Proofs.YtcmjgghkmdbphaaGreatDoor
open Go.RowKit Go.Shelf
def GotSplit (B : Nat) (q : List Range × Int) (e : Ending) (w' : World) : Prop := ∃ v, e = .returned (.tuple #[v, .int .i64 q.2]) ∧ RangeR.Own w' B 27 (fun _ => False) v q.1
end Go.Proofs.YtcmjgghkmdbphaaGreatDoor
namespace Go.Proofs.YtcmjgghkmdbphaaGreatDoor
open Go.RowKit
theorem idxF_Rec (F : FuncId) (caps : List Value) (p : Rec → Bool) (hent : ∀ args w, (callFunc F args).run Tryz.prog w = .ok (.enter F args) w) (A : Option Addr) (c : Nat) (l : List Rec) (P : Nat → Prop) (w : World) (hr : RecR.Row w P A l) (hl : l.length ≤ 9223372036854775807) (hF : Tells RecR aggV F caps P p l w) :
 Calls Tryz.prog 193 #[.slice A l.length c, .func (.func F) #[] caps.toArray] w fun e w' => e = .returned (.int .i64 (idxI p l)) ∧ Below w.heap.size w w' := by
 have HF := jh hF; clear hF
 have HR := jh hr; clear hr
 go_enter Tryz.func193, Tryz.ntmps193
 go_wp2
 go_loopw [5, 8] (fun _ i wr => ∃ k : Nat, k ≤ l.length ∧ i = .int .i64 k ∧ (∀ (j : Nat) (b : Rec), j < k → l[j]? = some b → p b = false) ∧ Below w.heap.size w wr) (fun _ i _ => l.length - (intOf i).toNat)
 case atStart => exact ⟨0, Nat.zero_le _, rfl, fun j b hj => absurd hj (by omega), jb _ _⟩
 case round =>
  obtain ⟨k, hk, rfl, hno, hbl⟩ := hrel
  have HN := jh hno; clear hno
  by_cases hlt : k < l.length
  ·have hlk := jg hlt
   generalize l[k] = a at hlk
   obtain ⟨b, o, cs, rfl, hP, hbw, hrep, hcs⟩ := (HR.out.ext hbl).at_ hlk
   have C := HF.out a cs wr (List.mem_of_getElem? hlk) hrep hbl
   have HK := jh hlk; clear hlk
   have hlt' : (k : Int) < l.length := by omega
   obtain ⟨nA, nc, pA, pc, sA, sc, rfl, _⟩ := rec_rep.1 hrep
   have c0 := hcs 0 _ rfl; have c1 := hcs 1 _ rfl; have c2 := hcs 2 _ rfl; have c3 := hcs 3 _ rfl; have c4 := hcs 4 _ rfl; have c5 := hcs 5 _ rfl; have c6 := hcs 6 _ rfl; have c7 := hcs 7 _ rfl; have c8 := hcs 8 _ rfl; have c9 := hcs 9 _ rfl; have c10 := hcs 10 _ rfl; have c11 := hcs 11 _ rfl; have c12 := hcs 12 _ rfl; have c13 := hcs 13 _ rfl; have c14 := hcs 14 _ rfl; have c15 := hcs 15 _ rfl; have c16 := hcs 16 _ rfl; have c17 := hcs 17 _ rfl; simp only [RecR_size, Nat.add_zero] at c0 c1 c2 c3 c4 c5 c6 c7 c8 c9 c10 c11 c12 c13 c14 c15 c16 c17
   dsimp only [aggV, Rec.cells] at C
   clear hcs
   try clear hrep
   have HC := jh C; clear C
   go_wp2_with fail
   refine HC.out.mono ?_
   cases hp : p a with
   | true =>
     have HP := jh hp; clear hp
     rintro e w1 ⟨rfl, hb1⟩
     go_wp2
     go_ret
     exact ⟨ret_int (idxI_some HK.out HP.out HN.out).symm, hbl.tr hb1⟩
   | false =>
     have HP := jh hp; clear hp
     rintro e w1 ⟨rfl, hb1⟩
     go_wp2
     go_round
     case rel =>
      refine ⟨k + 1, by omega, by go_num, fun j x hj hx => ?_, hbl.tr hb1⟩
      by_cases hjk : j < k
      ·exact HN.out j x hjk hx
      ·have : j = k := by omega
       subst this
       have h1 := HK.out
       rw [hx] at h1
       injection h1 with h1
       rw [h1]; exact HP.out
     case measure => simp [intOf]; omega
  ·go_wp2
   go_ret
   refine ⟨ret_int (idxI_none fun j x hx => HN.out j x ?_ hx).symm, hbl⟩
   have := (List.getElem?_eq_some_iff.1 hx).1
   omega
end Go.Proofs.YtcmjgghkmdbphaaGreatDoor
namespace Go.Proofs.YtcmjgghkmdbphaaGreatDoor
open Go.RowKit Go.Shelf
theorem icedHas_any (h : Int) (b : Nat) (r : Rec) (nA pA sA : Option Addr) (nc pc sc : Nat) (w : World) (hb : w.cell? ⟨b, 0, none⟩ = some (.int .i64 h)) :
 Calls Tryz.prog 263 #[.agg (r.cells nA nc pA pc sA sc).toArray, .pointer (some ⟨b, 0, none⟩)] w fun e w' => e = .returned (.bool (r.range.has h)) ∧ Below w.heap.size w w' := by
 have hlt := lt_of_cell hb
 have hb1 := (jb w.heap.size w).al (.cells (r.cells nA nc pA pc sA sc).toArray 46)
 have B0 := Blk.new w 46 (r.cells nA nc pA pc sA sc)
 have C1 := fun W => has_any r.range h W
 unfold Range.val at C1
 go_enter Tryz.func263, Tryz.ntmps263
 go_upto_region 1 with fail
 refine forget (M := fun W => Code.wp _ _ _ _ W) (fun W => Below w.heap.size w W ∧ Blk W w.heap.size 46 (r.cells nA nc pA pc sA sc)) ⟨hb1, B0⟩ ?_
 clear B0 hb1
 rintro w1 ⟨hb1, B0⟩
 have x13 : w1.cell? ⟨w.heap.size, 13, none⟩ = some (.int .i64 r.range.first) := B0.cell 13
 have x14 : w1.cell? ⟨w.heap.size, 14, none⟩ = some (.int .i64 r.range.last) := B0.cell 14
 have x15 : w1.cell? ⟨w.heap.size, 15, none⟩ = some (.int .i64 r.range.owner) := B0.cell 15
 have x16 : w1.cell? ⟨w.heap.size, 16, none⟩ = some (.int .i64 r.range.epoch) := B0.cell 16
 have y0 : w1.cell? ⟨b, 0, none⟩ = some (.int .i64 h) := (Below.cell hb1 (p := ⟨b, 0, none⟩) hlt).trans hb
 have HB := jh hb1
 clear B0 hb1 hb
 go_wp2_with fail
 refine (C1 _).mono ?_
 rintro e w2 ⟨rfl, hb2⟩
 have HB2 := jh (HB.out.tr hb2)
 clear hb2
 go_wp2_with fail
 go_ret
 exact ⟨rfl, HB2.out⟩
theorem enters_iced : ∀ args w, (callFunc 263 args).run Tryz.prog w = .ok (.enter 263 args) w := enters_of Tryz.func263 (by kernel_rfl) rfl
theorem iced_any (g : Nat) (s : St) (h : Int) (P : Nat → Prop) (w : World) (hst : StAt w P g s) (hl : s.frozen.length ≤ 1000000) :
 Calls Tryz.prog 181 #[ptrV g, .int .i64 h] w fun e w' => e = .returned (.int .i64 (icedS s h)) ∧ Below w.heap.size w w' := by
 obtain ⟨v, hB, hI⟩ := hst
 obtain ⟨A, c, hv, hc1, hc2, hrow⟩ := hI.frozen
 have hvl : v.frozen = .slice A s.frozen.length c := by injection hv
 have hb0 := (jb w.heap.size w).al (.cells #[.int .i64 h] 3)
 have B0 := Blk.new w 3 [.int .i64 h]
 have y9 : (w.alloc (.cells #[.int .i64 h] 3)).cell? ⟨g, 9, none⟩ = some v.frozen := (hB.ext hb0).cell 9
 rw [hvl] at y9
 have C := idxF_Rec 263 [.pointer (some ⟨w.heap.size, 0, none⟩)] (fun f => f.range.has h) enters_iced A c s.frozen P (w.alloc (.cells #[.int .i64 h] 3)) (hrow.ext hb0) (by omega) (fun a cs W' _ ha hb' => by
  obtain ⟨nA, nc, pA, pc, sA, sc, rfl, _⟩ := rec_rep.1 ha
  exact icedHas_any h w.heap.size a nA pA sA nc pc sc W' ((B0.ext hb').cell 0))
 have HB0 := jh hb0
 clear hB hI hv hvl hrow B0 hb0
 unfold ptrV
 go_enter Tryz.func181, Tryz.ntmps181
 go_wp2_with fail
 refine C.mono ?_
 clear C y9
 rintro e w2 ⟨rfl, hb2⟩
 go_wp2_with fail
 go_ret
 exact ⟨rfl, HB0.out.tr hb2⟩
end Go.Proofs.YtcmjgghkmdbphaaGreatDoor
namespace Go.Proofs.YtcmjgghkmdbphaaGreatDoor
open Go.RowKit
theorem lockedAt_any (r : Range) (b : Nat) (x : Put) (A : Option Addr) (c : Nat) (w : World) (hb : Blk w b 27 [.int .i64 r.first, .int .i64 r.last, .int .i64 r.owner, .int .i64 r.epoch]) (hs : sfit x.stream) :
 Calls Tryz.prog 121 #[.agg #[.string x.stream, .int .i64 x.expect, .slice A x.data.length c], .pointer (some ⟨b, 0, none⟩)] w fun e w' => e = .returned (.bool (r.has (hashS x.stream))) ∧ Below w.heap.size w w' := by
 have hb0 := (jb w.heap.size w).al (.cells #[.string x.stream, .int .i64 x.expect, .slice A x.data.length c] 69)
 have B0 := Blk.new w 69 [.string x.stream, .int .i64 x.expect, .slice A x.data.length c]
 have C1 := fun W => hashI_any x.stream W hs
 have C2 := fun W => has_any r (hashS x.stream) W
 unfold Range.val at C2
 have BR := hb.ext hb0
 clear hs hb
 go_enter Tryz.func121, Tryz.ntmps121
 go_upto_region 1 with fail
 generalize hw1 : (w.alloc (.cells #[.string x.stream, .int .i64 x.expect, .slice A x.data.length c] 69)) = w1 at *
 clear hw1
 have z0 := On.cell (BR.cell 0 : w1.cell? ⟨b, 0, none⟩ = some (.int .i64 r.first))
 have z1 := On.cell (BR.cell 1 : w1.cell? ⟨b, 1, none⟩ = some (.int .i64 r.last))
 have z2 := On.cell (BR.cell 2 : w1.cell? ⟨b, 2, none⟩ = some (.int .i64 r.owner))
 have z3 := On.cell (BR.cell 3 : w1.cell? ⟨b, 3, none⟩ = some (.int .i64 r.epoch))
 have y0 := On.cell (B0.cell 0 : w1.cell? ⟨w.heap.size, 0, none⟩ = some (.string x.stream))
 have hlo := jb w1.heap.size w1
 have HB0 := jh hb0
 clear BR B0 hb0
 refine wp_region_mix (.seg [0, 1, 2] 3 (.seg [] 4 (.leaf [5]))) (fun w' => ∃ d : Wd (On w1), w' = d.w) (by kernel_rfl) (by kernel_rfl) (fun _ _ d _ _ h => by cases d <;> exact h) (ClsW.mk hlo.drew) ?_
 unfold wpMix; simp only [pick, j1, j2, j3, j4]
 (repeat (show wpQuiet _ _ _ _ (_ :: _) _; go_big_quiet_step (fail))); refine qn ?_
 go_wp2_with fail
 refine (C1 _).mono ?_
 rintro e w' ⟨rfl, rfl⟩
 go_wp2_with fail
 (refine segw (D := On w1) (hlo.drew) ?_; unfold wpMix; simp only [pick, j1, j2, j3, j4]; (repeat (show wpQuiet _ _ _ _ (_ :: _) _; go_big_quiet_step (fail))); refine qn ?_)
 go_wp2_with fail
 refine (C2 _).mono ?_
 rintro e w3 ⟨rfl, hb3'⟩
 have hb3 : Below w1.heap.size w1 w3 := hlo.drew.tr hb3'
 have HB3 := jh (HB0.out.tr hb3)
 clear hb3'
 go_wp2_with fail
 (refine segw (D := On w1) (hb3) ?_; unfold wpMix; simp only [pick, j1, j2, j3, j4]; (repeat (show wpQuiet _ _ _ _ (_ :: _) _; go_big_quiet_step (fail))); refine qn ?_)
 clear z0 z1 z2 z3 y0 hlo hb3
 go_wp2_with fail
 go_ret
 exact ⟨rfl, HB3.out⟩
theorem enters_locked : ∀ args w, (callFunc 121 args).run Tryz.prog w = .ok (.enter 121 args) w := enters_of Tryz.func121 (by kernel_rfl) rfl
theorem locked_any (g : Nat) (s : St) (r : Range) (P : Nat → Prop) (w : World) (h : StAt w P g s) (hs : s.self ≠ 0) (hp : HeldFair s) :
 Calls Tryz.prog 24 #[ptrV g, .agg #[.int .i64 r.first, .int .i64 r.last, .int .i64 r.owner, .int .i64 r.epoch]] w fun e w' => e = .returned (.bool (lockedS s r)) ∧ Below w.heap.size w w' := by
 obtain ⟨v, hB, hI⟩ := h
 have hb0 := (jb w.heap.size w).al (.cells #[.int .i64 r.first, .int .i64 r.last, .int .i64 r.owner, .int .i64 r.epoch] 27)
 have BN := Blk.new w 27 [.int .i64 r.first, .int .i64 r.last, .int .i64 r.owner, .int .i64 r.epoch]
 have HI := jh (ja hI hB)
 have HHP := jh hp
 have hgl := hB.lt
 have HBS := jh (show lockedS s r = (s.held.any fun x => x.2.batch.puts.any fun p => r.has (hashS p.stream)) from rfl)
 clear hI hB hp
 unfold ptrV
 go_enter Tryz.func24, Tryz.ntmps24
 go_upto_region 1 with fail
 generalize hwr : (w.alloc (.cells #[.int .i64 r.first, .int .i64 r.last, .int .i64 r.owner, .int .i64 r.epoch] 27)) = wr at *
 clear hwr
 have C1 := gone_any g s.self wr ((HI.out.2.ext hb0).cell 0) hs
 unfold ptrV at C1
 have b6 : wr.cell? ⟨g, 6, none⟩ = some v.held := (HI.out.2.ext hb0).cell 6
 have BNr := jh BN
 have hlo := hb0
 clear BN hb0 hs
 go_wp2_with fail
 refine C1.mono ?_
 clear C1
 rintro e w' ⟨rfl, rfl⟩
 obtain ⟨hnd, hh⟩ := HI.out.1.held
 have HLO := jh hlo
 clear hnd hlo
 rcases hh with ⟨hv, hnil⟩ | ⟨m, LA, hv, hPm, hMA, hrep, hl⟩
 ·rw [hv] at b6
  go_wp2_with (first
   | (at_range; refine wpList_range_nil rfl (.tmp 12) _ rfl Tryz.underlying172 rfl ?_; intro w2 hit hb2 hz2)
   | fail)
  go_frame
  go_loopw [14] (fun _ wq => wq = w2) (fun _ _ => 0)
  case atStart => rfl
  case round =>
   obtain rfl := hrel
   go_wp2_with (first
    | (at_next; refine wpList_next_nil rfl (.tmp 13) rfl rfl hit ?_)
    | fail)
   go_ret
   exact ⟨ret_bool (by rw [HBS.out, hnil]; rfl), HLO.out.tr hb2⟩
 ·rw [hv] at b6
  have hMA' := hMA.ext HLO.out
  have HRP := jh (show ∀ p ∈ LA, HeldR.rep wr (fun g => P g ∧ g < wr.heap.size) p.2.2 p.2.1 from fun p hp => HeldR.mono (held_same hrep HLO.out p hp) (fun g h1 h2 => ⟨h1, h2⟩))
  have HLL := jh (show (s.held.any fun x => x.2.batch.puts.any fun p => r.has (hashS p.stream)) = LA.any fun p => p.2.1.batch.puts.any fun x => r.has (hashS x.stream) from by rw [hl, List.any_map]; rfl)
  clear hrep hl hMA hv hPm
  go_wp2_with (first
   | (at_range; refine wpList_range_map rfl (.tmp 12) _ rfl Tryz.underlying172 rfl hMA' ?_; intro w2 hit hb2 hz2)
   | fail)
  try go_frame
  clear b6 hMA'
  generalize hwo : wr = wo at *
  clear hwo
  have hzo : wo.heap.size = wo.heap.size := rfl
  go_loopw [14] (fun _ wq => ∃ left : List (Tx × (Held × List Value)), IterAt txE wq wo.heap.size m (left.map fun p => (p.1, aggV p.2.2)) ∧ (∀ p ∈ left, p ∈ LA) ∧ (LA.any fun p => p.2.1.batch.puts.any fun x => r.has (hashS x.stream)) = (left.any fun p => p.2.1.batch.puts.any fun x => r.has (hashS x.stream)) ∧ Below wo.heap.size wo wq) (fun _ wq => leftLen wq wo.heap.size m)
  case atStart => exact ⟨LA, hit, fun _ h => h, rfl, hb2⟩
  case round =>
   obtain ⟨left, hiq, hsub, hany, hbq⟩ := hrel
   have HANY := jh hany
   have HSUB := jh hsub
   have held_rep_at : ∀ {p : Tx × (Held × List Value)}, p ∈ left → HeldR.rep wr (fun g => P g ∧ g < wo.heap.size) p.2.2 p.2.1 := fun {p} hp => HeldR.same (HRP.out p (hsub p hp)) (Same.of_belowB hbq fun g hg => hg.2)
   clear hany hsub hit
   go_wp2_with (first
    | (at_next; refine wpList_next_held rfl (.tmp 13) rfl rfl hiq (fun p hp => held_rep_at hp) (fun h0 => ?_) (fun i t h pA fA pc fc w3 hp hrow hit3 hO3 hz3 hen => ?_))
    | fail)
   ·go_ret
    exact ⟨ret_bool (by rw [HBS.out, HLL.out, HANY.out, h0]; rfl), HLO.out.tr hbq⟩
   ·have hb3 : Below wo.heap.size wo w3 := hbq.trans (hO3.low (fun g hg => by rw [hg]; omega) hbq.size)
    have hb4 := hb3.al (.cells #[.int .i64 h.tx.node, .int .i64 h.tx.life, .int .i64 h.tx.num, .string h.batch.key, .slice pA h.batch.puts.length pc, .int .i64 h.stamp.wall, .int .i64 h.stamp.logic, .int .i64 h.stamp.node, .slice fA h.firsts.length fc] 192)
    have hrow4 := (hrow.2.2.same (Same.of_only hO3 fun g hg e => by have e' : g = wo.heap.size := e; have := hg.2; omega) (by omega)).ext ((jb w3.heap.size w3).al (.cells #[.int .i64 h.tx.node, .int .i64 h.tx.life, .int .i64 h.tx.num, .string h.batch.key, .slice pA h.batch.puts.length pc, .int .i64 h.stamp.wall, .int .i64 h.stamp.logic, .int .i64 h.stamp.node, .slice fA h.firsts.length fc] 192))
    have BN4 := BNr.out.ext hb4
    have hit4 := hit3.ext ((jb w3.heap.size w3).al (.cells #[.int .i64 h.tx.node, .int .i64 h.tx.life, .int .i64 h.tx.num, .string h.batch.key, .slice pA h.batch.puts.length pc, .int .i64 h.stamp.wall, .int .i64 h.stamp.logic, .int .i64 h.stamp.node, .slice fA h.firsts.length fc] 192))
    have hlen4 : (left.eraseIdx i).length < left.length := by
     have := (List.getElem?_eq_some_iff.1 hp).1
     rw [List.length_eraseIdx, if_pos this]; omega
    have hleft := hiq.len
    have C := hasF_Put 121 [.pointer (some ⟨w.heap.size, 0, none⟩)] (fun x => r.has (hashS x.stream)) enters_locked pA pc h.batch.puts _ (w3.alloc (.cells #[.int .i64 h.tx.node, .int .i64 h.tx.life, .int .i64 h.tx.num, .string h.batch.key, .slice pA h.batch.puts.length pc, .int .i64 h.stamp.wall, .int .i64 h.stamp.logic, .int .i64 h.stamp.node, .slice fA h.firsts.length fc] 192)) hrow4 (by have := hrow.1; have := hrow.2.1; omega) (fun a cs W ha hra hb => by
     obtain ⟨Ax, cx, rfl, hsf, _⟩ := put_rep.1 hra
     exact lockedAt_any r w.heap.size a Ax cx W (BN4.ext hb) hsf)
    have H4 := jh (ja hb4 (ja hit4 (ja hlen4 hleft)))
    have HP := jh hp
    clear hb3 hb4 hrow4 BN4 hit4 hlen4 hleft hen hit3 hO3 hz3 hrow hp hiq held_rep_at
    refine C.mono ?_
    clear C
    cases hq : h.batch.puts.any fun x => r.has (hashS x.stream)
    ·have HQ := jh hq; clear hq
     rintro e w5 ⟨rfl, hb5⟩
     have hb5' := H4.out.1.tr hb5
     have hit5 := H4.out.2.1.ext hb5
     go_wp2_with fail
     go_round
     case rel => exact ⟨left.eraseIdx i, hit5, fun p hp => HSUB.out p (List.mem_of_mem_eraseIdx hp), any_erase HANY.out HP.out HQ.out, hb5'⟩
     case measure =>
      have h1 := hit5.len
      have h2 := H4.out.2.2.1
      have h3 := H4.out.2.2.2
      simp only [List.length_map] at h1 h3
      omega
    ·have HQ := jh hq; clear hq
     rintro e w5 ⟨rfl, hb5⟩
     have hb5' := H4.out.1.tr hb5
     go_wp2_with fail
     go_ret
     refine ⟨ret_bool ?_, HLO.out.tr hb5'⟩
     rw [HBS.out, HLL.out, eq_comm, List.any_eq_true]
     exact ⟨_, HSUB.out _ (List.mem_of_getElem? HP.out), HQ.out⟩
end Go.Proofs.YtcmjgghkmdbphaaGreatDoor
namespace Go.Proofs.YtcmjgghkmdbphaaGreatDoor
open Go.RowKit
theorem indexR_any (A : Option Addr) (c : Nat) (l : List Range) (x : Range) (P : Nat → Prop) (w : World) (hr : RangeR.Row w P A l) (hl : l.length ≤ 1000000) :
 Calls Tryz.prog 265 #[.slice A l.length c, .agg #[.int .i64 x.first, .int .i64 x.last, .int .i64 x.owner, .int .i64 x.epoch]] w fun e w' => e = .returned (.int .i64 (idxI (fun y => decide (x = y)) l)) ∧ Below w.heap.size w w' := by
 have HR := jh (hr.mono (Q := fun g => g < w.heap.size) fun g _ h => h)
 have hb0 := (jb w.heap.size w).al (.cells #[.int .i64 x.first, .int .i64 x.last, .int .i64 x.owner, .int .i64 x.epoch] 27)
 have B0 := Blk.new w 27 [.int .i64 x.first, .int .i64 x.last, .int .i64 x.owner, .int .i64 x.epoch]
 clear hr
 go_enter Tryz.func265, Tryz.ntmps265
 go_upto_region 1 with fail
 generalize hw1 : (w.alloc (.cells #[.int .i64 x.first, .int .i64 x.last, .int .i64 x.owner, .int .i64 x.epoch] 27)) = w1 at *
 clear hw1
 have HB := jh (ja hb0 B0)
 clear hb0 B0
 go_wp2_with fail
 go_loopw [8] (fun i wr => ∃ k : Nat, k ≤ l.length ∧ i = .int .i64 k ∧ (∀ (j : Nat) (y : Range), j < k → l[j]? = some y → decide (x = y) = false) ∧ Below w1.heap.size w1 wr) (fun i _ => l.length - (intOf i).toNat)
 case atStart => exact ⟨0, Nat.zero_le _, rfl, fun j y hj => absurd hj (by omega), jb _ _⟩
 case round =>
  obtain ⟨k, hk, rfl, hno, hbl⟩ := hrel
  have HN := jh (ja hno hbl)
  by_cases hlt : k < l.length
  ·have hlk := jg hlt
   obtain ⟨bb, o, cs, rfl, hP, hbw, hrep, hcs⟩ := (HR.out.ext (HB.out.1.tr hbl)).at_ hlk
   generalize l[k] = y at *
   obtain ⟨rfl, _⟩ := range_rep.1 hrep
   have HLK := jh hlk
   have c0 := hcs 0 _ rfl; have c1 := hcs 1 _ rfl; have c2 := hcs 2 _ rfl; have c3 := hcs 3 _ rfl; simp only [RangeR_size, Nat.add_zero] at c0 c1 c2 c3
   have BX := HB.out.2.ext hbl
   have z0 : wr.cell? ⟨w.heap.size, 0, none⟩ = some (.int .i64 x.first) := BX.cell 0
   have z1 : wr.cell? ⟨w.heap.size, 1, none⟩ = some (.int .i64 x.last) := BX.cell 1
   have z2 : wr.cell? ⟨w.heap.size, 2, none⟩ = some (.int .i64 x.owner) := BX.cell 2
   have z3 : wr.cell? ⟨w.heap.size, 3, none⟩ = some (.int .i64 x.epoch) := BX.cell 3
   have hlt' : (k : Int) < l.length := by omega
   clear hlk hrep hcs hno hbl BX
   have hcase : (x.first ≠ y.first) ∨ (y.first = x.first ∧ x.last ≠ y.last) ∨ (y.first = x.first ∧ y.last = x.last ∧ x.owner ≠ y.owner) ∨ (y.first = x.first ∧ y.last = x.last ∧ y.owner = x.owner ∧ x.epoch ≠ y.epoch) ∨ (y.first = x.first ∧ y.last = x.last ∧ y.owner = x.owner ∧ y.epoch = x.epoch) := by omega
   rcases hcase with gg | gg | gg | gg | gg
   ·have hxy : decide (x = y) = false := jd (fun e => by subst e; simp at gg)
    have HXY := jh hxy
    (have g3 : (x.first == y.first) = false := by rw [beq_eq_false_iff_ne] ; exact gg)
    clear gg hxy
    go_wp2_with fail
    go_quiet (fail)
    go_wp2_with fail
    go_round
    case rel =>
     refine ⟨k + 1, by omega, by go_num, fun j z hj hz => ?_, HN.out.2.drewN _⟩
     by_cases hjk : j < k
     ·exact HN.out.1 j z hjk hz
     ·have : j = k := by omega
      subst this
      rw [HLK.out] at hz
      injection hz with hz
      subst hz
      exact HXY.out
    case measure => simp [intOf]; omega
   ·have hxy : decide (x = y) = false := jd (fun e => by subst e; simp at gg)
    have HXY := jh hxy
    (rw [gg.1] at c0) ; (have g3 : (x.last == y.last) = false := by rw [beq_eq_false_iff_ne] ; exact gg.2)
    clear gg hxy
    go_wp2_with fail
    go_quiet (fail)
    go_wp2_with fail
    go_round
    case rel =>
     refine ⟨k + 1, by omega, by go_num, fun j z hj hz => ?_, HN.out.2.drewN _⟩
     by_cases hjk : j < k
     ·exact HN.out.1 j z hjk hz
     ·have : j = k := by omega
      subst this
      rw [HLK.out] at hz
      injection hz with hz
      subst hz
      exact HXY.out
    case measure => simp [intOf]; omega
   ·have hxy : decide (x = y) = false := jd (fun e => by subst e; simp at gg)
    have HXY := jh hxy
    (rw [gg.1] at c0) ; (rw [gg.2.1] at c1) ; (have g3 : (x.owner == y.owner) = false := by rw [beq_eq_false_iff_ne] ; exact gg.2.2)
    clear gg hxy
    go_wp2_with fail
    go_quiet (fail)
    go_wp2_with fail
    go_round
    case rel =>
     refine ⟨k + 1, by omega, by go_num, fun j z hj hz => ?_, HN.out.2.drewN _⟩
     by_cases hjk : j < k
     ·exact HN.out.1 j z hjk hz
     ·have : j = k := by omega
      subst this
      rw [HLK.out] at hz
      injection hz with hz
      subst hz
      exact HXY.out
    case measure => simp [intOf]; omega
   ·have hxy : decide (x = y) = false := jd (fun e => by subst e; simp at gg)
    have HXY := jh hxy
    (rw [gg.1] at c0) ; (rw [gg.2.1] at c1) ; (rw [gg.2.2.1] at c2) ; (have g3 : (x.epoch == y.epoch) = false := by rw [beq_eq_false_iff_ne] ; exact gg.2.2.2)
    clear gg hxy
    go_wp2_with fail
    go_quiet (fail)
    go_wp2_with fail
    go_round
    case rel =>
     refine ⟨k + 1, by omega, by go_num, fun j z hj hz => ?_, HN.out.2.drewN _⟩
     by_cases hjk : j < k
     ·exact HN.out.1 j z hjk hz
     ·have : j = k := by omega
      subst this
      rw [HLK.out] at hz
      injection hz with hz
      subst hz
      exact HXY.out
    case measure => simp [intOf]; omega
   ·have hxy : x = y := by obtain ⟨a1, a2, a3, a4⟩ := x; obtain ⟨b1, b2, b3, b4⟩ := y; simp at gg; simp [gg]
    subst hxy
    clear gg
    go_wp2_with fail
    go_quiet (fail)
    go_wp2_with fail
    go_ret
    refine ⟨?_, HB.out.1.tr (HN.out.2.drewN _)⟩
    rw [idxI_some HLK.out (by simp) HN.out.1]
    rfl
  ·have hkn : k = l.length := by omega
   clear hno hbl
   go_wp2_with fail
   go_ret
   refine ⟨?_, HB.out.1.tr HN.out.2⟩
   rw [idxI_none (fun j y hy => HN.out.1 j y (by have := (List.getElem?_eq_some_iff.1 hy).1; omega) hy)]
   rfl
theorem containsR (l : List Range) (x : Range) : decide (0 ≤ idxI (fun y => decide (x = y)) l) = decide (x ∈ l) := by
 rw [idxI_any]
 rw [Bool.eq_iff_iff, List.any_eq_true]
 constructor
 ·rintro ⟨y, hy, h⟩
  have h := of_decide_eq_true h
  subst h
  exact decide_eq_true hy
 ·intro h
  exact ⟨x, of_decide_eq_true h, by simp⟩
theorem containsR_any (A : Option Addr) (c : Nat) (l : List Range) (x : Range) (P : Nat → Prop) (w : World) (hr : RangeR.Row w P A l) (hl : l.length ≤ 1000000) :
 Calls Tryz.prog 183 #[.slice A l.length c, .agg #[.int .i64 x.first, .int .i64 x.last, .int .i64 x.owner, .int .i64 x.epoch]] w fun e w' => e = .returned (.bool (decide (x ∈ l))) ∧ Below w.heap.size w w' := by
 have hb0 := (jb w.heap.size w).al (.cells #[.int .i64 x.first, .int .i64 x.last, .int .i64 x.owner, .int .i64 x.epoch] 27)
 have B0 := Blk.new w 27 [.int .i64 x.first, .int .i64 x.last, .int .i64 x.owner, .int .i64 x.epoch]
 have C1 := indexR_any A c l x P (w.alloc (.cells #[.int .i64 x.first, .int .i64 x.last, .int .i64 x.owner, .int .i64 x.epoch] 27)) (hr.ext hb0) hl
 have HC := jh (containsR l x)
 clear hr
 go_enter Tryz.func183, Tryz.ntmps183
 go_wp2_with fail
 refine C1.mono ?_
 clear C1
 rintro e w1 ⟨rfl, hb1⟩
 have HB := jh (hb0.tr hb1)
 clear hb0 hb1 B0
 generalize idxI (fun y => decide (x = y)) l = i at *
 go_wp2_with fail
 all_goals
  go_ret
  exact ⟨ret_bool (by rw [← HC.out]), HB.out⟩
theorem clipRec_any (A : Option Addr) (n c : Nat) (w : World) (hc : n ≤ c) (hm : c ≤ 9223372036854775807) (hn : A = none → n = 0) :
 Calls Tryz.prog 184 #[.slice A n c] w fun e w' => e = .returned (.slice A n n) ∧ w = w' := by
 have hm' : n ≤ 9223372036854775807 := by omega
 cases A with
 | none =>
   obtain rfl := hn rfl
   go_enter Tryz.func184, Tryz.ntmps184
   go_wp2_with fail
   go_ret
   exact ⟨rfl, rfl⟩
 | some a =>
   clear hn
   go_enter Tryz.func184, Tryz.ntmps184
   go_wp2_with fail
   go_ret
   exact ⟨rfl, rfl⟩
end Go.Proofs.YtcmjgghkmdbphaaGreatDoor
