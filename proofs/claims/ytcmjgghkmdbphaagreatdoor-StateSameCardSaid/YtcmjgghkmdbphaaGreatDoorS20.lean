/- the ring: split, set, laid around (plain law). records that may be; the invariant of a state (plain law). state.Apply: each kind of record. state.outcome, state.forget. state.Apply: outcome and forget. -/
import Derived.Test.YtcmjgghkmdbphaaGreatDoorS19
import Derived.Test.YtcmjgghkmdbphaaGreatDoorS03
import Derived.Test.YtcmjgghkmdbphaaGreatDoorS18
set_option maxRecDepth 20000
set_option maxHeartbeats 25600000
namespace Go.Proofs.YtcmjgghkmdbphaaGreatDoor
open Go.RowKit
theorem idxI_spec {α : Type} (p : α → Bool) (l : List α) : (idxI p l = -1 ∧ ∀ a ∈ l, p a = false) ∨ ∃ a x b, l = a ++ x :: b ∧ (∀ y ∈ a, p y = false) ∧ p x = true ∧ idxI p l = a.length := by
 unfold idxI
 cases h : l.findIdx? p with
 | none => exact .inl ⟨rfl, by rw [List.findIdx?_eq_none_iff] at h; exact h⟩
 | some i =>
   right
   rw [List.findIdx?_eq_some_iff_getElem] at h
   obtain ⟨hi, hp, hb⟩ := h
   refine ⟨l.take i, l[i], l.drop (i + 1), ?_, ?_, hp, ?_⟩
   ·rw [← List.drop_eq_getElem_cons hi, List.take_append_drop]
   ·intro y hy
    obtain ⟨j, hj, rfl⟩ := List.getElem_of_mem hy
    rw [List.length_take] at hj
    rw [List.getElem_take]
    have := hb j (by omega)
    simpa using this
   ·rw [List.length_take]; simp only [Int.natCast_inj]; omega
theorem has_iff {r : Range} {h : Int} : r.has h = true ↔ r.first ≤ h ∧ h ≤ r.last := by
 simp only [Range.has, Bool.and_eq_true, decide_eq_true_eq]
theorem ownedB_iff {r : Range} : ownedB r = true ↔ 1 ≤ r.owner ∧ r.owner ≤ 5 ∧ 1 ≤ r.epoch ∧ r.epoch ≤ 1099511627776 := by
 simp only [ownedB, Bool.and_eq_true, decide_eq_true_eq]
theorem soundF_cons {r : Range} {l : List Range} {n m : Int} : soundFrom (r :: l) n = some m ↔ (r.first = n ∧ n ≤ r.last ∧ r.last ≤ 4294967295 ∧ ownedB r = true) ∧ soundFrom l (r.last + 1) = some m := by
 simp only [soundFrom]
 by_cases h : r.first = n ∧ n ≤ r.last ∧ r.last ≤ 4294967295 ∧ ownedB r = true
 ·rw [if_pos h]; simp [h]
 ·rw [if_neg h]
  constructor
  ·intro q; cases q
  ·intro q; exact (h q.1).elim
theorem soundFrom_app {a b : List Range} {n m : Int} : soundFrom (a ++ b) n = some m ↔ ∃ k, soundFrom a n = some k ∧ soundFrom b k = some m := by
 induction a generalizing n with
 | nil => simp [soundFrom]
 | cons r a ih =>
   rw [List.cons_append, soundF_cons, ih]
   constructor
   ·rintro ⟨h, k, h1, h2⟩; exact ⟨k, soundF_cons.2 ⟨h, h1⟩, h2⟩
   ·rintro ⟨k, h1, h2⟩; rw [soundF_cons] at h1; exact ⟨h1.1, k, h1.2, h2⟩
theorem soundFrom_le {l : List Range} {n m : Int} (h : soundFrom l n = some m) : n ≤ m := by
 induction l generalizing n with
 | nil => simp [soundFrom] at h; omega
 | cons r l ih => rw [soundF_cons] at h; have := ih h.2; omega
theorem soundFrom_mem {l : List Range} {n m : Int} (h : soundFrom l n = some m) {x : Range} (hx : x ∈ l) : n ≤ x.first ∧ x.first ≤ x.last ∧ x.last < m ∧ x.last ≤ 4294967295 ∧ ownedB x = true := by
 induction l generalizing n with
 | nil => cases hx
 | cons r l ih =>
   rw [soundF_cons] at h
   rcases List.mem_cons.1 hx with rfl | hx
   ·have := soundFrom_le h.2; exact ⟨by omega, by omega, by omega, by omega, h.1.2.2.2⟩
   ·have := ih h.2 hx; exact ⟨by omega, by omega, by omega, by omega, this.2.2.2.2⟩
theorem soundFrom_cover {l : List Range} {n m : Int} (h : soundFrom l n = some m) {k : Int} (h1 : n ≤ k) (h2 : k < m) : ∃ x ∈ l, x.has k = true := by
 induction l generalizing n with
 | nil => simp [soundFrom] at h; omega
 | cons r l ih =>
   rw [soundF_cons] at h
   by_cases hk : k ≤ r.last
   ·exact ⟨r, by simp, has_iff.2 ⟨by omega, hk⟩⟩
   ·obtain ⟨x, hx, h3⟩ := ih h.2 (by omega)
    exact ⟨x, by simp [hx], h3⟩
theorem soundFrom_uniq {l : List Range} {n m : Int} (h : soundFrom l n = some m) {x y : Range} (hx : x ∈ l) (hy : y ∈ l) {k : Int} (h1 : x.has k = true) (h2 : y.has k = true) : x = y := by
 rw [has_iff] at h1 h2
 induction l generalizing n with
 | nil => cases hx
 | cons r l ih =>
   rw [soundF_cons] at h
   rcases List.mem_cons.1 hx with ex | hx' <;> rcases List.mem_cons.1 hy with ey | hy'
   ·rw [ex, ey]
   ·have := soundFrom_mem h.2 hy'; subst ex; omega
   ·have := soundFrom_mem h.2 hx'; subst ey; omega
   ·exact ih h.2 hx' hy'
theorem sound_iff {l : List Range} : soundR l = true ↔ soundFrom l 0 = some 4294967296 ∧ l.length ≤ 64 := by
 simp only [soundR, Bool.and_eq_true, decide_eq_true_eq]
theorem at_spec {l : List Range} (hs : soundR l = true) {h : Int} (h0 : 0 ≤ h) (h1 : h < 4294967296) : ∃ a x b, l = a ++ x :: b ∧ x.has h = true ∧ atR l h = a.length ∧ findR l h = (x, true) := by
 obtain ⟨x, hx, hh⟩ := soundFrom_cover (sound_iff.1 hs).1 h0 h1
 have ha : atR l h = idxI (fun r => r.has h) l := by unfold atR; rw [if_pos hs]
 rcases idxI_spec (fun r : Range => r.has h) l with ⟨_, hn⟩ | ⟨a, y, b, hl, _, hy, hi⟩
 ·rw [hn x hx] at hh; cases hh
 ·refine ⟨a, y, b, hl, hy, by rw [ha, hi], ?_⟩
  unfold findR
  rw [ha, hi, if_neg (by omega), hl]
  simp
theorem find_mem {l : List Range} {h : Int} (hf : (findR l h).2 = true) : (findR l h).1 ∈ l ∧ (findR l h).1.has h = true ∧ soundR l = true := by
 unfold findR at hf ⊢
 split at hf
 ·cases hf
 ·rename_i hn
  rw [if_neg hn]
  unfold atR at hn ⊢
  split at hn
  ·rename_i hs
   rw [if_pos hs]
   rcases idxI_spec (fun r : Range => r.has h) l with ⟨hi, _⟩ | ⟨a, y, b, hl, _, hy, hi⟩
   ·omega
   ·rw [hi]
    have hg : l.getD ((a.length : Int)).toNat zeroRange = y := by rw [hl]; simp
    simp only [hg]
    exact ⟨by rw [hl]; simp, hy, hs⟩
  ·omega
theorem at_nonneg {l : List Range} {h : Int} (hn : ¬ atR l h < 0) : ∃ a x b, l = a ++ x :: b ∧ x.has h = true ∧ atR l h = a.length ∧ soundR l = true := by
 unfold atR at hn ⊢
 split at hn
 ·rename_i hs
  rw [if_pos hs]
  rcases idxI_spec (fun r : Range => r.has h) l with ⟨hi, _⟩ | ⟨a, y, b, hl, _, hy, hi⟩
  ·omega
  ·exact ⟨a, y, b, hl, hy, hi, hs⟩
 ·omega
theorem split_spec {l : List Range} {h : Int} (hz : (splitR l h).2 = 0) : ∃ a x b, l = a ++ x :: b ∧ x.has h = true ∧ x.first ≠ h ∧ (splitR l h).1 = a ++ [{ x with last := h - 1, epoch := x.epoch + 1 }, { x with first := h, epoch := x.epoch + 1 }] ++ b ∧ soundR (splitR l h).1 = true ∧ soundR l = true := by
 by_cases hc : atR l h < 0 ∨ (l.getD (atR l h).toNat zeroRange).first = h ∨ (l.getD (atR l h).toNat zeroRange).epoch = 1099511627776
 ·unfold splitR at hz; simp only [if_pos hc] at hz; cases hz
 ·by_cases hc2 : 64 ≤ l.length
  ·unfold splitR at hz; simp only [if_neg hc, if_pos hc2] at hz; cases hz
  ·have he : splitR l h = (l.take (atR l h).toNat ++ ([{ l.getD (atR l h).toNat zeroRange with last := h - 1, epoch := (l.getD (atR l h).toNat zeroRange).epoch + 1 }, { l.getD (atR l h).toNat zeroRange with first := h, epoch := (l.getD (atR l h).toNat zeroRange).epoch + 1 }] ++ l.drop ((atR l h).toNat + 1)), 0) := by
    unfold splitR; simp only [if_neg hc, if_neg hc2]
   simp only [not_or] at hc
   obtain ⟨a, x, b, hl, hx, hi, hs⟩ := at_nonneg hc.1
   rw [he]
   rw [hi] at hc ⊢
   have hg : l.getD ((a.length : Int)).toNat zeroRange = x := by rw [hl]; simp
   rw [hg] at hc ⊢
   have ht : l.take (a.length : Int).toNat = a := by rw [hl]; simp
   have hd : l.drop ((a.length : Int).toNat + 1) = b := by rw [hl]; simp
   rw [ht, hd]
   have hS := sound_iff.1 hs
   refine ⟨a, x, b, hl, hx, hc.2.1, by simp, ?_, hs⟩
   rw [sound_iff]
   obtain ⟨h1, h2⟩ := hS
   rw [hl] at h1 hc2
   rw [soundFrom_app] at h1
   obtain ⟨k, h3, h4⟩ := h1
   rw [soundF_cons] at h4
   rw [has_iff] at hx
   have ho := ownedB_iff.1 h4.1.2.2.2
   refine ⟨soundFrom_app.2 ⟨k, h3, ?_⟩, by simp at hc2 ⊢; omega⟩
   show soundFrom (_ :: _ :: b) k = _
   rw [soundF_cons, soundF_cons]
   refine ⟨⟨h4.1.1, ?_, ?_, ownedB_iff.2 ⟨ho.1, ho.2.1, ?_, ?_⟩⟩, ⟨?_, ?_, h4.1.2.2.1, ownedB_iff.2 ⟨ho.1, ho.2.1, ?_, ?_⟩⟩, h4.2⟩ <;> simp only [] <;> omega
theorem set_spec {l : List Range} {r : Range} (hz : (setR l r).2 = 0) : ∃ a x b, l = a ++ x :: b ∧ x.first = r.first ∧ x.last = r.last ∧ (setR l r).1 = a ++ r :: b ∧ soundR (setR l r).1 = true ∧ soundR l = true ∧ ownedB r = true := by
 unfold setR at hz ⊢
 by_cases hs : soundR l = false
 ·simp only [hs] at hz; simp at hz
 ·simp only [if_neg hs] at hz ⊢
  by_cases hc : atR l r.first < 0 ∨ (l.getD (atR l r.first).toNat zeroRange).first ≠ r.first ∨ (l.getD (atR l r.first).toNat zeroRange).last ≠ r.last
  ·simp only [if_pos hc] at hz; cases hz
  ·simp only [if_neg hc] at hz ⊢
   by_cases ho : ownedB r = false
   ·simp only [if_pos ho] at hz; cases hz
   ·simp only [if_neg ho] at hz ⊢
    simp only [not_or, Decidable.not_not] at hc
    obtain ⟨a, x, b, hl, hx, hi, hs'⟩ := at_nonneg hc.1
    rw [hi] at hc ⊢
    have hg : l.getD ((a.length : Int)).toNat zeroRange = x := by rw [hl]; simp
    rw [hg] at hc
    have hset : l.set (a.length : Int).toNat r = a ++ r :: b := by rw [hl]; simp
    rw [hset]
    refine ⟨a, x, b, hl, hc.2.1, hc.2.2, rfl, ?_, hs', by simpa using ho⟩
    obtain ⟨h1, h2⟩ := sound_iff.1 hs'
    rw [hl] at h1 h2
    rw [soundFrom_app] at h1
    obtain ⟨k, h3, h4⟩ := h1
    rw [soundF_cons] at h4
    rw [sound_iff]
    refine ⟨soundFrom_app.2 ⟨k, h3, soundF_cons.2 ⟨⟨by omega, by omega, by omega, by simpa using ho⟩, ?_⟩⟩, by simpa using h2⟩
    rw [← hc.2.2]; exact h4.2
def posR (r : Range) (n : Int) : Int := if r.first < n then max n (r.last + 1) else n
theorem around_sound {r : Range} (hr : r.first ≤ r.last) (hm : r.last ≤ 4294967295) (ho : ownedB r = true) : ∀ (l : List Range) (n m : Int), soundFrom l n = some m → soundFrom (aroundR l r) (posR r n) = some (posR r m)
 | [], n, m, h => by simp [soundFrom] at h; subst h; rfl
 | x :: l, n, m, h => by
   rw [soundF_cons] at h
   obtain ⟨⟨h1, h2, h3, h4⟩, h5⟩ := h
   have ih := around_sound hr hm ho l _ _ h5
   have hxo : ∀ a b, ownedB { x with first := a, last := b } = true := fun a b => h4
   show soundFrom (aroundX r x ++ aroundR l r) _ = _
   rw [soundFrom_app]
   refine ⟨posR r (x.last + 1), ?_, ih⟩
   unfold aroundX posR
   dsimp only
   by_cases c1 : r.first < n
   ·rw [if_pos c1, if_neg (show ¬ x.first ≤ min x.last (r.first - 1) by omega), if_neg (show ¬ (x.first ≤ r.first ∧ r.first ≤ x.last) by omega), if_pos (show r.first < x.last + 1 by omega)]
    simp only [List.nil_append]
    by_cases c2 : max x.first (r.last + 1) ≤ x.last
    ·rw [if_pos c2, soundF_cons]
     exact ⟨⟨by show max x.first _ = _; omega, by show _ ≤ x.last; omega, h3, h4⟩, by simp only [soundFrom, Option.some.injEq]; omega⟩
    ·rw [if_neg c2]; simp only [soundFrom, Option.some.injEq]; omega
   ·rw [if_neg c1]
    by_cases c2 : r.first ≤ x.last
    ·rw [if_pos (by omega : r.first < x.last + 1), if_pos (⟨by omega, c2⟩ : x.first ≤ r.first ∧ r.first ≤ x.last)]
     have hmid : ∀ q, soundFrom q (r.last + 1) = some (max (x.last + 1) (r.last + 1)) → soundFrom ([r] ++ q) r.first = some (max (x.last + 1) (r.last + 1)) := fun q hq => by
      show soundFrom (r :: q) _ = _
      rw [soundF_cons]; exact ⟨⟨rfl, hr, hm, ho⟩, hq⟩
     have hhigh : soundFrom (if max x.first (r.last + 1) ≤ x.last then [{ x with first := max x.first (r.last + 1) }] else []) (r.last + 1) = some (max (x.last + 1) (r.last + 1)) := by
      by_cases c3 : max x.first (r.last + 1) ≤ x.last
      ·rw [if_pos c3, soundF_cons]
       exact ⟨⟨by show max x.first _ = _; omega, by show _ ≤ x.last; omega, h3, h4⟩, by simp only [soundFrom, Option.some.injEq]; omega⟩
      ·rw [if_neg c3]; simp only [soundFrom, Option.some.injEq]; omega
     by_cases c3 : x.first ≤ min x.last (r.first - 1)
     ·rw [if_pos c3]
      show soundFrom (_ :: ([r] ++ _)) n = _
      rw [soundF_cons]
      refine ⟨⟨h1, by show n ≤ min x.last _; omega, by show min x.last _ ≤ _; omega, h4⟩, ?_⟩
      rw [show (min x.last (r.first - 1)) + 1 = r.first by omega]
      exact hmid _ hhigh
     ·rw [if_neg c3, List.nil_append, show n = r.first by omega]
      exact hmid _ hhigh
    ·rw [if_neg (by omega : ¬ r.first < x.last + 1), if_pos (by omega : x.first ≤ min x.last (r.first - 1)), if_neg (fun q : x.first ≤ r.first ∧ r.first ≤ x.last => c2 q.2), if_neg (show ¬ max x.first (r.last + 1) ≤ x.last by omega)]
     show soundFrom (_ :: []) n = _
     rw [soundF_cons]
     exact ⟨⟨h1, by show n ≤ min x.last _; omega, by show min x.last _ ≤ _; omega, h4⟩, by simp only [soundFrom, Option.some.injEq]; show min x.last _ + 1 = _; omega⟩
theorem around_ok {l : List Range} {r : Range} (hs : soundR l = true) (h0 : 0 ≤ r.first) (hr : r.first ≤ r.last) (hm : r.last ≤ 4294967295) (ho : ownedB r = true) (hl : (aroundR l r).length ≤ 64) : soundR (aroundR l r) = true := by
 rw [sound_iff]
 have := around_sound hr hm ho l _ _ (sound_iff.1 hs).1
 rw [show posR r 0 = 0 by unfold posR; rw [if_neg (by omega)], show posR r 4294967296 = 4294967296 by unfold posR; rw [if_pos (by omega)]; omega] at this
 exact ⟨this, hl⟩
theorem around_out {l : List Range} {r x : Range} {h : Int} (hx : x ∈ l) (hh : x.has h = true) (hr : r.has h = false) : ∃ y ∈ aroundR l r, y.has h = true ∧ y.owner = x.owner ∧ y.epoch = x.epoch := by
 have hn : ¬ (r.first ≤ h ∧ h ≤ r.last) := fun q => by rw [has_iff.2 q] at hr; cases hr
 rw [has_iff] at hh
 have hin : ∀ y, y ∈ aroundX r x → y ∈ aroundR l r := fun y hy => List.mem_flatMap.2 ⟨x, hx, hy⟩
 by_cases c : h < r.first
 ·refine ⟨{ x with last := min x.last (r.first - 1) }, hin _ ?_, has_iff.2 ⟨hh.1, by show h ≤ min _ _; omega⟩, rfl, rfl⟩
  unfold aroundX
  simp only [List.mem_append]
  left
  rw [if_pos (by omega)]
  simp
 ·refine ⟨{ x with first := max x.first (r.last + 1) }, hin _ ?_, has_iff.2 ⟨by show max _ _ ≤ h; omega, hh.2⟩, rfl, rfl⟩
  unfold aroundX
  simp only [List.mem_append]
  right; right
  rw [if_pos (by omega)]
  simp
end Go.Proofs.YtcmjgghkmdbphaaGreatDoor
namespace Go.Proofs.YtcmjgghkmdbphaaGreatDoor
open Go.RowKit
theorem checkR_iff {r : Rec} : checkR r = 0 ↔ namedK r.kind = true ∧ spareB r (fieldsF r.kind) = true ∧ headBad r (fieldsF r.kind) = false ∧ listsBad r (fieldsF r.kind) = false := by
 unfold checkR recB
 cases namedK r.kind <;> cases spareB r (fieldsF r.kind) <;> cases headBad r (fieldsF r.kind) <;> cases listsBad r (fieldsF r.kind) <;> simp
theorem checkR_kind {r : Rec} (h : checkR r = 0) : 1 ≤ r.kind ∧ r.kind ≤ 11 := by
 have := (checkR_iff.1 h).1
 simpa [namedK] using this
theorem checkR_batch {r : Rec} (h : checkR r = 0) (hk : r.kind = 3 ∨ r.kind = 4) : checkB r.batch = 0 ∧ soundB r.stamp = true := by
 have := (checkR_iff.1 h).2.2.1
 rcases hk with hk | hk <;> (rw [hk] at this; simp [headBad, fieldsF] at this)
 ·exact this
 ·exact this.2
theorem checkR_stamp {r : Rec} (h : checkR r = 0) (hk : r.kind = 5 ∨ r.kind = 6) : soundB r.stamp = true := by
 have := (checkR_iff.1 h).2.2.1
 rcases hk with hk | hk <;> (rw [hk] at this; simp [headBad, fieldsF] at this) <;> exact this.2
theorem checkR_span {r : Rec} (h : checkR r = 0) (hk : r.kind = 9 ∨ r.kind = 10 ∨ r.kind = 11) : 0 ≤ r.range.first ∧ 0 ≤ r.range.last ∧ 0 ≤ r.range.owner ∧ 0 ≤ r.range.epoch := by
 have := (checkR_iff.1 h).2.2.1
 rcases hk with hk | hk | hk <;> (rw [hk] at this; simp [headBad, fieldsF, inW] at this) <;> omega
def lifeS (s : St) (r : Rec) : St × Int := if r.n ≤ s.life then (s, 1) else ({ s with life := r.n }, 0)
def ceilS (s : St) (r : Rec) : St × Int := if r.n ≤ s.ceiling then (s, 1) else ({ s with ceiling := r.n }, 0)
def doS (s : St) (r : Rec) : St × Int :=
 if r.kind = 1 then lifeS s r else if r.kind = 2 then ceilS s r else if r.kind = 3 then commitS s r else if r.kind = 4 then prepareS s r else if r.kind = 5 then decideS s r
 else if r.kind = 6 then outcomeS s r else if r.kind = 7 then forgetS s r else if r.kind = 8 then splitS s r else if r.kind = 9 then freezeS s r else if r.kind = 10 then installS s r else releaseS s r
def applyS (s : St) (r : Rec) : St × Int := if checkR r ≠ 0 then (s, checkR r) else doS s r
def heldD (l : List (Tx × Held)) : Nat := (l.map fun p => sumD p.2.batch.puts).sum
def costR (r : Rec) : Nat := sumD r.batch.puts + (r.streams.map fun s => s.events.length + s.keys.length + 1).sum
structure HeldOk (s : St) (h : Held) : Prop where
 check : checkB h.batch = 0
 firsts : h.firsts = firstsT s.table h.batch.puts
 serves : ∀ p ∈ h.batch.puts, servesS s p.stream = true
 warm : ∀ p ∈ h.batch.puts, ∀ f ∈ s.frozen, f.range.has (hashS p.stream) = false
def Apart (p q : Tx × Held) : Prop := ∀ a ∈ p.2.batch.puts, ∀ b ∈ q.2.batch.puts, a.stream ≠ b.stream
structure Inv (s : St) (N : Nat) : Prop where
 self : 1 ≤ s.self ∧ s.self ≤ s.nodes ∧ s.nodes ≤ 5
 ring : soundR s.ring = true
 tab : s.table.Ok
 size : s.table.length + heldD s.held ≤ N
 evs : ∀ n, (evT s.table n).length + heldD s.held ≤ N
 kys : ∀ n, (kyT s.table n).length + heldD s.held ≤ N
 log : s.log.length + heldD s.held ≤ N
 held : ∀ p ∈ s.held, HeldOk s p.2
 apart : s.held.Pairwise Apart
 nd : (s.held.map (·.1)).Nodup
 frozen : ∀ f ∈ s.frozen, f.range ∈ s.ring ∧ f.range.owner = s.self ∧ f.to ≠ s.self
 fnd : (s.frozen.map Rec.range).Nodup
theorem Inv.mono {s : St} {N M : Nat} (h : Inv s N) (hm : N ≤ M) : Inv s M :=
 { h with size := Nat.le_trans h.size hm, evs := fun n => Nat.le_trans (h.evs n) hm, kys := fun n => Nat.le_trans (h.kys n) hm, log := Nat.le_trans h.log hm }
theorem serves_iff {s : St} (hs : soundR s.ring = true) (n : Str) : servesS s n = true ↔ ∃ x ∈ s.ring, x.has (hashS n) = true ∧ x.owner = s.self := by
 have hb := hashS_bd n
 obtain ⟨a, x, b, hl, hx, _, hf⟩ := at_spec hs hb.1 hb.2
 unfold servesS ofR
 rw [hf]
 simp only [Bool.true_and, decide_eq_true_eq]
 constructor
 ·intro h; exact ⟨x, by rw [hl]; simp, hx, h⟩
 ·rintro ⟨y, hy, h1, h2⟩
  rw [← h2, soundFrom_uniq (sound_iff.1 hs).1 (show x ∈ s.ring by rw [hl]; simp) hy hx h1]
theorem mayP_zero {s : St} {l : List Put} (h : mayP s l = 0) : ∀ p ∈ l, servesS s p.stream = true ∧ busyS s p.stream = false := by
 induction l with
 | nil => simp
 | cons p l ih =>
   unfold mayP at h
   split at h
   ·omega
   ·rename_i h1
    split at h
    ·omega
    ·rename_i h2
     intro q hq
     rcases List.mem_cons.1 hq with rfl | hq
     ·exact ⟨by simpa using h1, by simpa using h2⟩
     ·exact ih h q hq
theorem mayV_zero {T : Tab} {l : List Put} {f : List Int} (h : (mayV T l f).2.2 = 0) : (mayV T l f).1 = f ++ firstsT T l ∧ ∀ p ∈ l, p.expect = -1 ∨ p.expect = versionT T p.stream := by
 induction l generalizing f with
 | nil => simp [mayV, firstsT]
 | cons p l ih =>
   unfold mayV at h ⊢
   split at h
   ·cases h
   ·rename_i hc
    rw [if_neg hc]
    obtain ⟨h1, h2⟩ := ih h
    refine ⟨by rw [h1]; simp [firstsT], fun q hq => ?_⟩
    rcases List.mem_cons.1 hq with rfl | hq
    ·by_cases c : q.expect = -1
     ·exact .inl c
     ·exact .inr (Decidable.byContradiction fun c2 => hc ⟨c, c2⟩)
    ·exact h2 q hq
theorem mayS_zero {s : St} {b : Batch} (h : (mayS s b).2.2 = 0) : checkB b = 0 ∧ (∀ p ∈ b.puts, servesS s p.stream = true ∧ busyS s p.stream = false) ∧ (knownS s b).2.2 = 0 ∧ (mayS s b).1 = firstsT s.table b.puts ∧ ∀ p ∈ b.puts, p.expect = -1 ∨ p.expect = versionT s.table p.stream := by
 unfold mayS at h ⊢
 split at h
 ·rename_i h1; exact absurd h h1
 ·rename_i h1
  rw [if_neg h1]
  split at h
  ·rename_i h2; exact absurd h h2
  ·rename_i h2
   rw [if_neg h2]
   split at h
   ·rename_i h3; exact absurd h h3
   ·rename_i h3
    rw [if_neg h3]
    obtain ⟨h4, h5⟩ := mayV_zero h
    exact ⟨by omega, mayP_zero (by omega), by omega, by simpa using h4, h5⟩
theorem putA_len {κ β : Type} [DecidableEq κ] (k : κ) (v : β) (l : List (κ × β)) : (putA k v l).length ≤ l.length + 1 := by
 induction l with
 | nil => simp [putA]
 | cons p l ih => obtain ⟨x, u⟩ := p; unfold putA; split <;> simp; omega
theorem appendT_len (k : Str) (l : List Event) (T : Tab) : (appendT k l T).1.length ≤ T.length + 1 ∧ ∀ n, (kyT (appendT k l T).1 n).length ≤ (kyT T n).length + 1 := by
 unfold appendT
 cases l with
 | nil => exact ⟨by simp, fun n => by simp⟩
 | cons e l =>
   dsimp only
   split
   ·exact ⟨by simp, fun n => by simp⟩
   ·split
    ·exact ⟨by simp, fun n => by simp⟩
    ·refine ⟨putA_len _ _ _, fun n => ?_⟩
     rw [kyT_put]
     split
     ·rename_i hn; subst hn
      rw [ts_getD]
      unfold addKey
      split
      ·exact putA_len _ _ _
      ·simp
     ·omega
theorem putP_len (k : Str) : ∀ (l : List Put) (E : List Event) (T : Tab), (putP k l E T).length ≤ T.length + l.length ∧ ∀ n, (kyT (putP k l E T) n).length ≤ (kyT T n).length + l.length
 | [], E, T => ⟨by simp [putP], fun n => by simp [putP]⟩
 | p :: l, E, T => by
   obtain ⟨h1, h2⟩ := appendT_len k (E.take p.data.length) T
   obtain ⟨h3, h4⟩ := putP_len k l (E.drop p.data.length) (appendT k (E.take p.data.length) T).1
   unfold putP
   refine ⟨by rw [List.length_cons]; omega, fun n => ?_⟩
   have := h2 n; have := h4 n
   rw [List.length_cons]; omega
theorem fresh_len {T : Tab} (hT : T.Ok) : (freshT T).length = T.length ∧ ∀ n, (kyT (freshT T) n).length = (kyT T n).length := by
 obtain ⟨hL, hO⟩ := fresh_like hashS_bd hT
 refine ⟨?_, fun n => ?_⟩
 ·have := (perm_of_mem hO.nd hT.nd (like_mem hL)).length_eq
  simpa using this
 ·have hn := hL n
  have h1 := ev_ok hO n
  have h2 := ev_ok hT n
  have : ((kyT (freshT T) n).map (·.1)).Perm ((kyT T n).map (·.1)) := by
   refine perm_of_mem h1.2.2.2 h2.2.2.2 fun x => ?_
   have e : getA x (kyT (freshT T) n) = getA x (kyT T n) := by
    unfold kyT
    cases h3 : getA n (freshT T) <;> cases h4 : getA n T <;> rw [h3, h4] at hn
    ·exact hn.elim
    ·exact hn.elim
    ·exact hn.2 x
   cases h : getA x (kyT T n) with
   | none =>
     rw [h] at e
     exact ⟨fun q => absurd q (getA_none.1 e), fun q => absurd q (getA_none.1 h)⟩
   | some y =>
     rw [h] at e
     exact ⟨fun _ => List.mem_map.2 ⟨_, getA_mem h, rfl⟩, fun _ => List.mem_map.2 ⟨_, getA_mem e, rfl⟩⟩
  simpa using this.length_eq
theorem puts_le_sum {l : List Put} (h : ∀ p ∈ l, PutOk p) : l.length ≤ sumD l := by
 induction l with
 | nil => simp
 | cons p l ih =>
   have h1 := ih fun q hq => h q (by simp [hq])
   have h2 : p.data.length ≠ 0 := fun e => (h p (by simp)).full (List.length_eq_zero_iff.1 e)
   simp only [sumD, List.map_cons, List.sum_cons, List.length_cons] at *
   omega
theorem sumD_le {l : List Put} (h : ∀ p ∈ l, PutOk p) : sumD l ≤ 20 * l.length := by
 induction l with
 | nil => simp [sumD]
 | cons p l ih =>
   have h1 := ih fun q hq => h q (by simp [hq])
   have h2 := (h p (by simp)).few
   simp only [sumD, List.map_cons, List.sum_cons, List.length_cons] at *
   omega
structure PutS (s : St) (b : Batch) (st : Stamp) (s' : St) : Prop where
 rest : s' = { s with table := s'.table, log := s'.log }
 ok : s'.table.Ok
 log : s'.log = s.log ++ makeB b (firstsT s.table b.puts) st 0
 evs : ∀ n, evT s'.table n = evT s.table n ++ (makeB b (firstsT s.table b.puts) st 0).filter fun e => decide (e.stream = n)
 knows : ∀ n x, knownT s'.table n x = knowsT s.table b.key st (b.puts.any fun p => decide (p.stream = n)) n x
 size : s'.table.length ≤ s.table.length + b.puts.length
 kys : ∀ n, (kyT s'.table n).length ≤ (kyT s.table n).length + b.puts.length
theorem firsts_like {T T' : Tab} (h : T.Like T') (l : List Put) : firstsT T l = firstsT T' l := List.map_congr_left fun p _ => by rw [TS.Like.version h]
theorem putS_spec {s : St} {b : Batch} {st : Stamp} (hT : s.table.Ok) (hc : checkB b = 0) (hst : soundB st = true) (hv : ∀ n, (evT s.table n).length ≤ 1000000) : PutS s b st (putS s b (firstsT s.table b.puts) st) := by
 obtain ⟨hL, hO⟩ := fresh_like hashS_bd hT
 have hg := checkB_good hc
 have hp := hg.putOk
 have h1 := sumD_le hp
 have h2 := hg.few
 have e := firsts_like hL b.puts
 obtain ⟨a1, a2, a3⟩ := putP_spec (k := b.key) (st := st) hg.key hst b.puts 0 (freshT s.table) hO (checkB_dist hc) hp (fun n => by
  have := hv n
  rw [version_ev, like_ev hL]; omega) (by omega)
 rw [e] at a1 a2 a3
 obtain ⟨l1, l2⟩ := putP_len b.key b.puts (makeB b (firstsT s.table b.puts) st 0) (freshT s.table)
 obtain ⟨f1, f2⟩ := fresh_len hT
 refine ⟨rfl, a1, rfl, fun n => ?_, fun n x => ?_, by show (putP _ _ _ _).length ≤ _; omega, fun n => by have := l2 n; have := f2 n; show (kyT (putP _ _ _ _) n).length ≤ _; omega⟩
 ·show evT (putP _ _ _ _) n = _
  rw [show makeB b (firstsT s.table b.puts) st 0 = makeF b.puts (firstsT s.table b.puts) st 0 0 from rfl, a2, like_ev hL]
 ·show knownT (putP _ _ _ _) n x = _
  rw [show makeB b (firstsT s.table b.puts) st 0 = makeF b.puts (firstsT s.table b.puts) st 0 0 from rfl, a3]
  unfold knowsT
  rw [TS.Like.known hL, TS.Like.known hL, TS.Like.version hL]
end Go.Proofs.YtcmjgghkmdbphaaGreatDoor
namespace Go.Proofs.YtcmjgghkmdbphaaGreatDoor
open Go.RowKit
theorem commit_out (g : Nat) (s : St) (r : Rec) (nA pA sA : Option Addr) (nc pc sc : Nat) (P Q : Nat → Prop) (w : World) (h : StAt w P g s) (hg : ¬ P g) (hF : Fit s)
 (hr : RecAt w Q r nA nc pA pc sA sc) (hQ : ¬ Q g) (hl : r.batch.puts.length ≤ 1000000) (hd : ∀ p ∈ r.batch.puts, p.data.length ≤ 1000000) (hT : Tabs w) (h2 : 2 ≤ g) :
 Calls Tryz.prog 89 #[ptrV g, .agg (r.cells nA nc pA pc sA sc).toArray] w (StOut w P g (commitS s r)) :=
 (commit_any g s r nA pA sA nc pc sc P Q w h hg hF.fair (hF.seen h) hr hQ hl hd hT h2).mono fun _ _ h => h.out
theorem decide_out (g : Nat) (s : St) (r : Rec) (nA pA sA : Option Addr) (nc pc sc : Nat) (P Q : Nat → Prop) (w : World) (h : StAt w P g s) (hg : ¬ P g) (hF : Fit s)
 (hr : RecAt w Q r nA nc pA pc sA sc) (hQ : ¬ Q g) (_hl : r.batch.puts.length ≤ 1000000) (_hd : ∀ p ∈ r.batch.puts, p.data.length ≤ 1000000) (hT : Tabs w) (h2 : 2 ≤ g) :
 Calls Tryz.prog 91 #[ptrV g, .agg (r.cells nA nc pA pc sA sc).toArray] w (StOut w P g (decideS s r)) :=
 decide_any g s r nA pA sA nc pc sc P Q w h hg hF hr hQ hT h2
end Go.Proofs.YtcmjgghkmdbphaaGreatDoor
namespace Go.Proofs.YtcmjgghkmdbphaaGreatDoor
open Go.RowKit
def Outcome.cellsV (h : Outcome) (fA : Option Addr) (fc : Nat) : List Value :=
 [.int .i64 h.tx.node, .int .i64 h.tx.life, .int .i64 h.tx.num, .bool h.yes, .int .i64 h.stamp.wall, .int .i64 h.stamp.logic, .int .i64 h.stamp.node, .slice fA h.nodes.length fc]
theorem outcome_rep {w : World} {P : Nat → Prop} {cs : List Value} {h : Outcome} : OutcomeR.rep w P cs h ↔ ∃ fA fc, cs = h.cellsV fA fc ∧ h.tx.fit ∧ h.stamp.fit ∧ (h.nodes.length ≤ fc ∧ fc ≤ 9223372036854775807 ∧ IntR.Row w P fA h.nodes) := by
 constructor
 ·rintro ⟨c1, c2, rfl, htx, c3, c4, rfl, rfl, c5, c6, rfl, hst, ⟨fA, fc, rfl, f1, f2, f3⟩⟩
  obtain ⟨rfl, h1⟩ := tx_rep.1 htx
  obtain ⟨rfl, h2⟩ := stamp_rep.1 hst
  exact ⟨fA, fc, rfl, h1, h2, ⟨f1, f2, f3⟩⟩
 ·rintro ⟨fA, fc, rfl, h1, h2, ⟨f1, f2, f3⟩⟩
  exact ⟨_, _, rfl, tx_rep.2 ⟨rfl, h1⟩, [_], _, rfl, rfl, _, [_], rfl, stamp_rep.2 ⟨rfl, h2⟩, fA, fc, rfl, f1, f2, f3⟩
theorem outcome_of {LA : List (Tx × (Outcome × List Value))} {w : World} {P : Nat → Prop} (hr : ∀ p ∈ LA, OutcomeR.rep w P p.2.2 p.2.1) (t : Tx) :
 (getA t (LA.map fun p => (p.1, p.2.1)) = none ∧ assocOf t (LA.map fun p => (p.1, aggV p.2.2)) = none) ∨
 ∃ h fA fc, getA t (LA.map fun p => (p.1, p.2.1)) = some h ∧ assocOf t (LA.map fun p => (p.1, aggV p.2.2)) = some (.agg (h.cellsV fA fc).toArray) := by
 rw [assocOf_eq, getA_map (fun x : Outcome × List Value => x.1) t LA, getA_map (fun x : Outcome × List Value => aggV x.2) t LA]
 cases hg : getA t LA with
 | none => exact .inl ⟨rfl, rfl⟩
 | some x =>
   obtain ⟨h, cs⟩ := x
   have := hr _ (getA_mem hg)
   dsimp only at this
   obtain ⟨fA, fc, rfl, _⟩ := outcome_rep.1 this
   exact .inr ⟨h, fA, fc, rfl, rfl⟩
def farN (n : Int) : Bool := decide (n < 1) || decide (5 < n)
theorem farNode_any (n : Int) (w : World) : Calls Tryz.prog 177 #[.int .i64 n] w fun e w' => e = .returned (.bool (farN n)) ∧ w = w' := by
 go_enter Tryz.func177, Tryz.ntmps177
 go_wp2
 all_goals
  go_ret
  refine ⟨ret_bool ?_, rfl⟩
  go_light
  unfold farN
  refine Bool.eq_iff_iff.2 ?_
  simp at *
  try omega
theorem enters_far : ∀ args w, (callFunc 177 args).run Tryz.prog w = .ok (.enter 177 args) w := enters_of Tryz.func177 (by kernel_rfl) rfl
theorem forget_any (g : Nat) (s : St) (r : Rec) (nA pA sA : Option Addr) (nc pc sc : Nat) (P Q : Nat → Prop) (w : World) (h : StAt w P g s) (hg : ¬ P g)
 (hr : RecAt w Q r nA nc pA pc sA sc) (_hln : r.nodes.length ≤ 1000000) :
 Calls Tryz.prog 93 #[ptrV g, .agg (r.cells nA nc pA pc sA sc).toArray] w (StOut w P g (forgetS s r)) := by
 have hgl := h.lt
 have HH := jh (ja h (ja hg hr))
 clear h hg hr
 have hb1 := (jb w.heap.size w).al (.cells (r.cells nA nc pA pc sA sc).toArray 46)
 have B0 := Blk.new w 46 (r.cells nA nc pA pc sA sc)
 have hs1 : (w.alloc (.cells (r.cells nA nc pA pc sA sc).toArray 46)).heap.size = w.heap.size + 1 := by simp
 unfold ptrV
 go_enter Tryz.func93, Tryz.ntmps93
 go_upto_region 1 with fail
 refine forget (M := fun W => Code.wp _ _ _ _ W) (fun W => Below w.heap.size w W ∧ Blk W w.heap.size 46 (r.cells nA nc pA pc sA sc) ∧ W.heap.size = w.heap.size + 1) ⟨hb1, B0, hs1⟩ ?_
 clear B0 hb1 hs1
 rintro w1 ⟨hb1, B0, hs1⟩
 obtain ⟨v, hB, hI⟩ := HH.out.1
 have HB := jh (ja hB hI)
 obtain ⟨LA, hMV, hrep, hlA⟩ := hI.outcomes.mapV
 have hho := outcome_of hrep r.tx
 rw [← hlA] at hho
 have y7 := On.cell ((hB.ext hb1).cell 7 : w1.cell? ⟨g, 7, none⟩ = some v.outcomes)
 have z7 := On.cell (B0.cell 7 : w1.cell? ⟨w.heap.size, 7, none⟩ = some (.int .i64 r.tx.node))
 have z8 := On.cell (B0.cell 8 : w1.cell? ⟨w.heap.size, 8, none⟩ = some (.int .i64 r.tx.life))
 have z9 := On.cell (B0.cell 9 : w1.cell? ⟨w.heap.size, 9, none⟩ = some (.int .i64 r.tx.num))
 have HMV := jh (fun (W : World) (hW : ∃ d : Wd (On w1), W = d.w) => (show MapV W v.outcomes (LA.map fun p => (p.1, aggV p.2.2)) from by obtain ⟨d, rfl⟩ := hW; exact hMV.ext (hb1.tr d.ok)))
 have HMW := jh (fun (W : World) (hW : Below w.heap.size w W) => (show MapV W v.outcomes (LA.map fun p => (p.1, aggV p.2.2)) from hMV.ext hW))
 have H1 := jh (ja hb1 (ja B0 hs1))
 have HREP := jh (ja hrep (ja hlA hMV))
 clear hB hI hMV hb1 B0 hs1 hrep hlA
 refine wp_region_mix (.seg [0, 1, 2, 3, 4, 5, 6, 7, 8, 9] 10 (.seg [] 11 (.leaf [12]))) (fun w' => ∃ d : Wd (On w1), w' = d.w) (by kernel_rfl) (by kernel_rfl) (fun _ _ d _ _ h => by cases d <;> exact h) (ClsW.mk (jb _ _).drew) ?_
 unfold wpMix; simp only [pick, j1, j2, j3, j4]
 rcases hho with ⟨hg0, hq⟩ | ⟨hh, uA, uc, hg1, hq⟩
 ·have HS := jh (show forgetS s r = (s, 4) from by unfold forgetS; rw [hg0]; rfl)
  clear hg0
  (repeat (show wpQuiet _ _ _ _ (_ :: _) _; first | (refine wpQuiet_lookup_v none rfl (.tmp 11) (.tmp 13) 173 true rfl Tryz.underlying173 rfl HMV.out r.tx rfl hq _ zero_outcome ?_; simp only [Option.getD_none, Option.isSome_none, if_true]; go_simp) | go_big_quiet_step (fail))); refine qn ?_
  go_wp2_with fail
  (refine segw (D := On w1) (by unfold On; repeat (with_reducible first | assumption | exact jb _ _ | refine Below.al ?_ _ | refine Below.drew ?_ | apply Below.st1)) ?_; unfold wpMix; simp only [pick, j1, j2, j3, j4]; (repeat (show wpQuiet _ _ _ _ (_ :: _) _; go_big_quiet_step (fail))); refine qn ?_)
  go_wp2_with fail
  (refine segw (D := On w1) (by unfold On; repeat (with_reducible first | assumption | exact jb _ _ | refine Below.al ?_ _ | refine Below.drew ?_ | apply Below.st1)) ?_; unfold wpMix; simp only [pick, j1, j2, j3, j4]; (repeat (show wpQuiet _ _ _ _ (_ :: _) _; go_big_quiet_step (fail))); refine qn ?_)
  go_wp2_with fail
  go_ret
  unfold StOut
  rw [HS.out]
  have hb4 : Below w.heap.size w ((w1.alloc (.cells #[.int .i64 0, .int .i64 0, .int .i64 0, .bool false, .int .i64 0, .int .i64 0, .int .i64 0, .slice none 0 0] 213)).drew) := (H1.out.1.al _).drew
  exact ⟨rfl, ⟨v, HB.out.1.ext hb4, (HB.out.2.same (js hb4)).mono fun k hk => .inl hk⟩, jo hb4⟩
 ·have HS := jh (show forgetS s r = ({ s with outcomes := delA r.tx s.outcomes }, 0) from by unfold forgetS; rw [hg1]; rfl)
  obtain ⟨m, hvm, hMm⟩ : ∃ m, v.outcomes = .map (some m) ∧ MapAt txE w m (LA.map fun p => (p.1, aggV p.2.2)) := by
   rcases HREP.out.2.2 with ⟨_, e⟩ | ⟨m, e, hM⟩
   ·rw [e] at hq; cases hq
   ·exact ⟨m, e, hM⟩
  have HK := jh (ja hvm hMm)
  clear hg1 hvm hMm
  (repeat (show wpQuiet _ _ _ _ (_ :: _) _; first | (refine wpQuiet_lookup_v _ rfl (.tmp 11) (.tmp 13) 173 true rfl Tryz.underlying173 rfl HMV.out r.tx rfl hq _ zero_outcome ?_; simp only [Option.getD_some, Option.isSome_some, if_true]; unfold Outcome.cellsV; go_simp) | go_big_quiet_step (fail))); refine qn ?_
  go_wp2_with fail
  (refine segw (D := On w1) (by unfold On; repeat (with_reducible first | assumption | exact jb _ _ | refine Below.al ?_ _ | refine Below.drew ?_ | apply Below.st1)) ?_; unfold wpMix; simp only [pick, j1, j2, j3, j4]; (repeat (show wpQuiet _ _ _ _ (_ :: _) _; go_big_quiet_step (fail))); refine qn ?_)
  go_wp2_with fail
  (refine segw (D := On w1) (by unfold On; repeat (with_reducible first | assumption | exact jb _ _ | refine Below.al ?_ _ | refine Below.drew ?_ | apply Below.st1)) ?_; unfold wpMix; simp only [pick, j1, j2, j3, j4]; (repeat (show wpQuiet _ _ _ _ (_ :: _) _; go_big_quiet_step (fail))); refine qn ?_)
  go_upto_region 4 with fail
  have h14 : Below w1.heap.size w1 ((w1.alloc (.cells #[.int .i64 hh.tx.node, .int .i64 hh.tx.life, .int .i64 hh.tx.num, .bool hh.yes, .int .i64 hh.stamp.wall, .int .i64 hh.stamp.logic, .int .i64 hh.stamp.node, .slice uA hh.nodes.length uc] 213)).drew) := by repeat (with_reducible first | assumption | exact jb _ _ | refine Below.al ?_ _ | refine Below.drew ?_ | apply Below.st1)
  generalize hw4 : ((w1.alloc (.cells #[.int .i64 hh.tx.node, .int .i64 hh.tx.life, .int .i64 hh.tx.num, .bool hh.yes, .int .i64 hh.stamp.wall, .int .i64 hh.stamp.logic, .int .i64 hh.stamp.node, .slice uA hh.nodes.length uc] 213)).drew) = w4 at *
  clear hw4 hq y7 z7 z8 z9
  have hw4 := H1.out.1.tr h14
  have B4 := H1.out.2.1.ext h14
  have y7 := On.cell (by rw [← HK.out.1]; exact (HB.out.1.ext hw4).cell 7 : w4.cell? ⟨g, 7, none⟩ = some (.map (some m)))
  have z7 := On.cell (B4.cell 7 : w4.cell? ⟨w.heap.size, 7, none⟩ = some (.int .i64 r.tx.node))
  have z8 := On.cell (B4.cell 8 : w4.cell? ⟨w.heap.size, 8, none⟩ = some (.int .i64 r.tx.life))
  have z9 := On.cell (B4.cell 9 : w4.cell? ⟨w.heap.size, 9, none⟩ = some (.int .i64 r.tx.num))
  have H4 := jh (ja h14 hw4)
  clear h14 hw4 B4
  refine wp_region_mix (.seg [0, 1, 2, 3, 4, 5, 6] 7 (.seg [] 8 (.last [9] 10))) (fun w' => ∃ d : Wd (On w4), w' = d.w) (by kernel_rfl) (by kernel_rfl) (fun _ _ d _ _ h => by cases d <;> exact h) (ClsW.mk (jb _ _).drew) ?_
  unfold wpMix; simp only [pick, j1, j2, j3, j4]
  (repeat (show wpQuiet _ _ _ _ (_ :: _) _; go_big_quiet_step (fail))); refine qn ?_
  have hd4 : Below w4.heap.size w4 w4.drew := (jb _ _).drew
  have CA := withoutO_any m _ r.tx w4.drew (HK.out.2.ext (H4.out.2.tr hd4))
  unfold txE at CA
  go_wp2_with fail
  refine CA.mono ?_
  clear CA
  rintro e w5 ⟨⟨m5, rfl, hm5, hM5⟩, hb5⟩
  have h45 := hd4.tr hb5
  have hw5 := H4.out.2.tr h45
  have B5 := HB.out.1.ext hw5
  have x7 : w5.cell? ⟨g, 7, none⟩ = some v.outcomes := B5.cell 7
  have x7f : w5.frozen? ⟨g, 7, none⟩ = false := B5.frozen 7
  have B6 : Blk (w5.setCell ⟨g, 7, none⟩ (.map (some m5))) g 176 (St.cells { s with outcomes := delA r.tx s.outcomes } { v with outcomes := .map (some m5) }) := B5.set_ 7 (.map (some m5))
  have O6 : Only (fun k => k = g) w5 (w5.setCell ⟨g, 7, none⟩ (.map (some m5))) := Only.set_ (F := fun k => k = g) rfl _
  have H6 := jh (ja B6 (ja O6 (ja hw5 (ja hm5 (ja hM5 h45.size)))))
  clear B6 O6 hw5 hm5 hM5 hb5 B5 hd4
  go_wp2_with fail
  (refine segw (D := On w4) (h45) ?_; unfold wpMix; simp only [pick, j1, j2, j3, j4]; (repeat (show wpQuiet _ _ _ _ (_ :: _) _; go_big_quiet_step (fail))); refine qn ?_)
  go_wp2_with fail
  (refine segw (D := On w4) (h45) ?_; unfold wpMix; simp only [pick, j1, j2, j3, j4]; (repeat (show wpQuiet _ _ _ _ (_ :: _) _; go_big_quiet_step (fail))); refine qn ?_)
  clear h45 y7 z7 z8 z9
  go_wp2_with fail
  dsimp only [wpList, SegQ]
  generalize hw6 : w5.setCell ⟨g, 7, none⟩ (.map (some m5)) = w6 at *
  clear hw6 x7 x7f
  go_wp2_with fail
  go_ret
  unfold StOut
  rw [HS.out]
  obtain ⟨B6, O6, hw5, hm5, hM5, hz5⟩ := H6.out
  have hO : Only (· = g) w w6 := (jo hw5).tr O6
  have hz4 := H4.out.2.size
  have hzd : w4.drew.heap.size = w4.heap.size := rfl
  have hI6 := (HB.out.2.same (Same.of_only hO fun k hk e => HH.out.2.1 (e ▸ hk))).mono (Q := fun k => P k ∨ w.heap.size ≤ k) fun k hk => .inl hk
  have hnd := HB.out.2.outcomes.1
  refine ⟨rfl, ⟨_, B6, ⟨hI6.fit, hI6.ring, hI6.table, hI6.held, ?_, hI6.decided, hI6.frozen, hI6.log⟩⟩, hO⟩
  show MpAt _ _ _ _ _ _ (delA r.tx s.outcomes)
  rw [HREP.out.2.1] at hnd ⊢
  exact MpAt.without_ hnd (fun p hp => OutcomeR.mono (OutcomeR.same (HREP.out.1 p hp) (Same.of_only hO fun k hk e => HH.out.2.1 (e ▸ hk))) fun k hk _ => .inl hk) (hM5.only O6 (fun e => by have e' : m5 = g := e; omega)) (.inr (by omega))
theorem outcome_any (g : Nat) (s : St) (r : Rec) (nA pA sA : Option Addr) (nc pc sc : Nat) (P Q : Nat → Prop) (w : World) (h : StAt w P g s) (hg : ¬ P g)
 (hr : RecAt w Q r nA nc pA pc sA sc) (hln : r.nodes.length ≤ 1000000) :
 Calls Tryz.prog 92 #[ptrV g, .agg (r.cells nA nc pA pc sA sc).toArray] w (StOut w P g (outcomeS s r)) := by
 have hgl := h.lt
 have HH := jh (ja h (ja hg hr))
 clear h hg hr
 have hb1 := (jb w.heap.size w).al (.cells (r.cells nA nc pA pc sA sc).toArray 46)
 have B0 := Blk.new w 46 (r.cells nA nc pA pc sA sc)
 have hs1 : (w.alloc (.cells (r.cells nA nc pA pc sA sc).toArray 46)).heap.size = w.heap.size + 1 := by simp
 unfold ptrV
 go_enter Tryz.func92, Tryz.ntmps92
 go_upto_region 1 with fail
 refine forget (M := fun W => Code.wp _ _ _ _ W) (fun W => Below w.heap.size w W ∧ Blk W w.heap.size 46 (r.cells nA nc pA pc sA sc) ∧ W.heap.size = w.heap.size + 1) ⟨hb1, B0, hs1⟩ ?_
 clear B0 hb1 hs1
 rintro w1 ⟨hb1, B0, hs1⟩
 obtain ⟨v, hB, hI⟩ := HH.out.1
 have HB := jh (ja hB hI)
 obtain ⟨LA, hMV, hrep, hlA⟩ := hI.outcomes.mapV
 have hho := outcome_of hrep r.tx
 rw [← hlA] at hho
 have y7 := On.cell ((hB.ext hb1).cell 7 : w1.cell? ⟨g, 7, none⟩ = some v.outcomes)
 have z7 := On.cell (B0.cell 7 : w1.cell? ⟨w.heap.size, 7, none⟩ = some (.int .i64 r.tx.node))
 have z8 := On.cell (B0.cell 8 : w1.cell? ⟨w.heap.size, 8, none⟩ = some (.int .i64 r.tx.life))
 have z9 := On.cell (B0.cell 9 : w1.cell? ⟨w.heap.size, 9, none⟩ = some (.int .i64 r.tx.num))
 have HMV := jh (fun (W : World) (hW : ∃ d : Wd (On w1), W = d.w) => (show MapV W v.outcomes (LA.map fun p => (p.1, aggV p.2.2)) from by obtain ⟨d, rfl⟩ := hW; exact hMV.ext (hb1.tr d.ok)))
 have HMW := jh (fun (W : World) (hW : Below w.heap.size w W) => (show MapV W v.outcomes (LA.map fun p => (p.1, aggV p.2.2)) from hMV.ext hW))
 have H1 := jh (ja hb1 (ja B0 hs1))
 have HREP := jh (ja hrep (ja hlA hMV))
 clear hB hI hMV hb1 B0 hs1 hrep hlA
 refine wp_region_mix (.seg [0, 1, 2, 3, 4, 5, 6, 7, 8, 9] 10 (.seg [] 11 (.leaf [12]))) (fun w' => ∃ d : Wd (On w1), w' = d.w) (by kernel_rfl) (by kernel_rfl) (fun _ _ d _ _ h => by cases d <;> exact h) (ClsW.mk (jb _ _).drew) ?_
 unfold wpMix; simp only [pick, j1, j2, j3, j4]
 rcases hho with ⟨hg0, hq⟩ | ⟨hh, uA, uc, hg1, hq⟩
 ·have HS0 := jh (show outcomeS s r = if (r.nodes.any farN) = true then (s, 1) else ({ s with outcomes := putA r.tx ⟨r.tx, r.yes, r.stamp, r.nodes⟩ s.outcomes }, 0) from by unfold outcomeS; rw [hg0, if_neg (by simp)]; rfl)
  clear hg0
  (repeat (show wpQuiet _ _ _ _ (_ :: _) _; first | (refine wpQuiet_lookup_v none rfl (.tmp 11) (.tmp 13) 173 true rfl Tryz.underlying173 rfl HMV.out r.tx rfl hq _ zero_outcome ?_; simp only [Option.getD_none, Option.isSome_none, if_true]; go_simp) | go_big_quiet_step (fail))); refine qn ?_
  go_wp2_with fail
  (refine segw (D := On w1) (by unfold On; repeat (with_reducible first | assumption | exact jb _ _ | refine Below.al ?_ _ | refine Below.drew ?_ | apply Below.st1)) ?_; unfold wpMix; simp only [pick, j1, j2, j3, j4]; (repeat (show wpQuiet _ _ _ _ (_ :: _) _; go_big_quiet_step (fail))); refine qn ?_)
  go_wp2_with fail
  (refine segw (D := On w1) (by unfold On; repeat (with_reducible first | assumption | exact jb _ _ | refine Below.al ?_ _ | refine Below.drew ?_ | apply Below.st1)) ?_; unfold wpMix; simp only [pick, j1, j2, j3, j4]; (repeat (show wpQuiet _ _ _ _ (_ :: _) _; go_big_quiet_step (fail))); refine qn ?_)
  go_upto_region 4 with fail
  have h14 : Below w1.heap.size w1 ((w1.alloc (.cells #[.int .i64 0, .int .i64 0, .int .i64 0, .bool false, .int .i64 0, .int .i64 0, .int .i64 0, .slice none 0 0] 213)).drew) := by repeat (with_reducible first | assumption | exact jb _ _ | refine Below.al ?_ _ | refine Below.drew ?_ | apply Below.st1)
  generalize hw4 : ((w1.alloc (.cells #[.int .i64 0, .int .i64 0, .int .i64 0, .bool false, .int .i64 0, .int .i64 0, .int .i64 0, .slice none 0 0] 213)).drew) = w4 at *
  clear hw4 hq y7 z7 z8 z9
  have hw4 := H1.out.1.tr h14
  have B4 := H1.out.2.1.ext h14
  have x10 : w4.cell? ⟨w.heap.size, 10, none⟩ = some (.slice nA r.nodes.length nc) := B4.cell 10
  have hrow4 := (HH.out.2.2.nodes.2.2.ext hw4).mono (Q := fun k => k < w4.heap.size) (fun k _ hk => hk)
  have CN := hasF_int 177 [] farN enters_far nA nc r.nodes _ w4 hrow4 (by omega) (fun a cs W ha hra hb => by
   obtain ⟨rfl, _⟩ := hra
   exact (farNode_any a W).mono fun e w' ⟨h1, h2⟩ => ⟨h1, h2 ▸ jb _ _⟩)
  have H4 := jh (ja h14 (ja hw4 hrow4))
  clear h14 hw4 B4 hrow4
  go_wp2_with fail
  refine CN.mono ?_
  clear CN x10
  cases hq : r.nodes.any farN
  ·have HS := jh (show outcomeS s r = ({ s with outcomes := putA r.tx ⟨r.tx, r.yes, r.stamp, r.nodes⟩ s.outcomes }, 0) from by rw [HS0.out, if_neg (by rw [hq]; simp)])
   clear hq
   rintro e w5 ⟨rfl, hb5⟩
   have h15 := H4.out.1.tr hb5
   have hw5 := H4.out.2.1.tr hb5
   have B5 := H1.out.2.1.ext h15
   have u7 := On.cell ((HB.out.1.ext hw5).cell 7 : w5.cell? ⟨g, 7, none⟩ = some v.outcomes)
   have z7 := On.cell (B5.cell 7 : w5.cell? ⟨w.heap.size, 7, none⟩ = some (.int .i64 r.tx.node))
   have z8 := On.cell (B5.cell 8 : w5.cell? ⟨w.heap.size, 8, none⟩ = some (.int .i64 r.tx.life))
   have z9 := On.cell (B5.cell 9 : w5.cell? ⟨w.heap.size, 9, none⟩ = some (.int .i64 r.tx.num))
   have z3 := On.cell (B5.cell 3 : w5.cell? ⟨w.heap.size, 3, none⟩ = some (.bool r.yes))
   have z4 := On.cell (B5.cell 4 : w5.cell? ⟨w.heap.size, 4, none⟩ = some (.int .i64 r.stamp.wall))
   have z5 := On.cell (B5.cell 5 : w5.cell? ⟨w.heap.size, 5, none⟩ = some (.int .i64 r.stamp.logic))
   have z6 := On.cell (B5.cell 6 : w5.cell? ⟨w.heap.size, 6, none⟩ = some (.int .i64 r.stamp.node))
   have z10 := On.cell (B5.cell 10 : w5.cell? ⟨w.heap.size, 10, none⟩ = some (.slice nA r.nodes.length nc))
   have H5 := jh (ja hw5 (H4.out.2.2.ext hb5))
   clear h15 hw5 B5 hb5
   go_upto_region 6 with fail
   refine wp_region_mix (.seg [0, 1, 2, 3, 4, 5, 6, 7, 8, 9, 10, 11, 12, 13, 14] 15 (.seg [] 16 (.seg [] 17 (.seg [] 18 (.last [19] 20))))) (fun w' => ∃ d : Wd (On w5), w' = d.w) (by kernel_rfl) (by kernel_rfl) (fun _ _ d _ _ h => by cases d <;> exact h) (ClsW.mk (jb _ _).drew) ?_
   unfold wpMix; simp only [pick, j1, j2, j3, j4]
   (repeat (show wpQuiet _ _ _ _ (_ :: _) _; go_big_quiet_step (fail))); refine qn ?_
   have hd5 : Below w5.heap.size w5 w5.drew := (jb _ _).drew
   have CC := clone_int nA nc r.nodes _ w5.drew (H5.out.2.ext hd5) (by omega)
   unfold GotOwn at CC
   go_wp2_with fail
   refine CC.mono ?_
   clear CC
   rintro e w6 ⟨⟨v6, rfl, hv6⟩, hb6⟩
   obtain ⟨A6, c6, rfl, hc6, hc6m⟩ := hv6.form
   have h56 := hd5.tr hb6
   go_wp2_with fail
   (refine segw (D := On w5) (h56) ?_; unfold wpMix; simp only [pick, j1, j2, j3, j4]; (repeat (show wpQuiet _ _ _ _ (_ :: _) _; go_big_quiet_step (fail))); refine qn ?_)
   go_wp2_with fail
   (refine segw (D := On w5) (h56) ?_; unfold wpMix; simp only [pick, j1, j2, j3, j4]; (repeat (show wpQuiet _ _ _ _ (_ :: _) _; go_big_quiet_step (fail))); refine qn ?_)
   have CW := withO_any v.outcomes _ r.tx r.tx.node r.tx.life r.tx.num r.stamp.wall r.stamp.logic r.stamp.node r.yes A6 r.nodes.length c6 w6 (HMW.out w6 (H5.out.1.tr h56))
   unfold txE at CW
   go_wp2_with fail
   refine CW.mono ?_
   clear CW
   rintro e w8 ⟨⟨m8, rfl, hm8, hM8⟩, hb8⟩
   have h58 := h56.tr hb8
   have hw8 := H5.out.1.tr h58
   have x7 : w8.cell? ⟨g, 7, none⟩ = some v.outcomes := (HB.out.1.ext hw8).cell 7
   have x7f : w8.frozen? ⟨g, 7, none⟩ = false := (HB.out.1.ext hw8).frozen 7
   have hf8 := (hv6.row' (P := fun k => w5.drew.heap.size ≤ k) int_plain (fun k hk => (hv6.lt k hk).1)).ext hb8
   go_wp2_with fail
   (refine segw (D := On w5) (h58) ?_; unfold wpMix; simp only [pick, j1, j2, j3, j4]; (repeat (show wpQuiet _ _ _ _ (_ :: _) _; go_big_quiet_step (fail))); refine qn ?_)
   go_wp2_with fail
   (refine segw (D := On w5) (h58) ?_; unfold wpMix; simp only [pick, j1, j2, j3, j4]; (repeat (show wpQuiet _ _ _ _ (_ :: _) _; go_big_quiet_step (fail))); refine qn ?_)
   have B9 : Blk (w8.setCell ⟨g, 7, none⟩ (.map (some m8))) g 176 (St.cells { s with outcomes := putA r.tx ⟨r.tx, r.yes, r.stamp, r.nodes⟩ s.outcomes } { v with outcomes := .map (some m8) }) := (HB.out.1.ext hw8).set_ 7 (.map (some m8))
   have O9 : Only (fun k => k = g) w8 (w8.setCell ⟨g, 7, none⟩ (.map (some m8))) := Only.set_ (F := fun k => k = g) rfl _
   have H9 := jh (ja B9 (ja O9 (ja hw8 (ja hf8 (ja hc6 hc6m)))))
   have HM8 := jh (ja hm8 (ja hM8 (ja h58 h56.size)))
   clear B9 O9 hw8 hf8 hm8 hM8 h58 hb8 h56 hb6 hd5 hv6 hc6 hc6m
   go_wp2_with fail
   dsimp only [wpList, SegQ]
   generalize hw9 : w8.setCell ⟨g, 7, none⟩ (.map (some m8)) = w9 at *
   clear hw9 x7 x7f u7 z3 z4 z5 z6 z7 z8 z9 z10
   go_wp2_with fail
   go_ret
   unfold StOut
   rw [HS.out]
   obtain ⟨B9, O9, hw8, hf8, hc6, hc6m⟩ := H9.out
   obtain ⟨hm8, hM8, h58, hz6⟩ := HM8.out
   have hO : Only (· = g) w w9 := (jo hw8).tr O9
   have hI9 := (HB.out.2.same (Same.of_only hO fun k hk e => HH.out.2.1 (e ▸ hk))).mono (Q := fun k => P k ∨ w.heap.size ≤ k) fun k hk => .inl hk
   have hz5 := H5.out.1.size
   have hzd : w5.drew.heap.size = w5.heap.size := rfl
   have hnd := HB.out.2.outcomes.1
   refine ⟨rfl, ⟨_, B9, ⟨hI9.fit, hI9.ring, hI9.table, hI9.held, ?_, hI9.decided, hI9.frozen, hI9.log⟩⟩, hO⟩
   show MpAt _ _ _ _ _ _ (putA r.tx _ s.outcomes)
   rw [HREP.out.2.1] at hnd ⊢
   refine MpAt.with_ (cs := Outcome.cellsV ⟨r.tx, r.yes, r.stamp, r.nodes⟩ A6 c6) hnd (fun p hp => OutcomeR.mono (OutcomeR.same (HREP.out.1 p hp) (Same.of_only hO fun k hk e => HH.out.2.1 (e ▸ hk))) fun k hk _ => .inl hk) (hM8.only O9 (fun e => by have e' : m8 = g := e; omega)) ?_ (.inr (by omega))
   refine outcome_rep.2 ⟨A6, c6, rfl, HH.out.2.2.tx, HH.out.2.2.stamp, ⟨hc6, hc6m, ?_⟩⟩
   exact (hf8.same (Same.of_only O9 fun k hk e => by have e' : k = g := e; omega) O9.size).mono fun k hk _ => .inr (by omega)
  ·have HS := jh (show outcomeS s r = (s, 1) from by rw [HS0.out, if_pos hq])
   clear hq
   rintro e w5 ⟨rfl, hb5⟩
   have H5 := jh (H4.out.2.1.tr hb5)
   clear hb5
   go_wp2_with fail
   go_ret
   unfold StOut
   rw [HS.out]
   exact ⟨rfl, ⟨v, HB.out.1.ext H5.out, (HB.out.2.same (js H5.out)).mono fun k hk => .inl hk⟩, jo H5.out⟩
 ·have HS := jh (show outcomeS s r = (s, 11) from by unfold outcomeS; rw [hg1]; rfl)
  clear hg1
  (repeat (show wpQuiet _ _ _ _ (_ :: _) _; first | (refine wpQuiet_lookup_v _ rfl (.tmp 11) (.tmp 13) 173 true rfl Tryz.underlying173 rfl HMV.out r.tx rfl hq _ zero_outcome ?_; simp only [Option.getD_some, Option.isSome_some, if_true]; unfold Outcome.cellsV; go_simp) | go_big_quiet_step (fail))); refine qn ?_
  go_wp2_with fail
  (refine segw (D := On w1) (by unfold On; repeat (with_reducible first | assumption | exact jb _ _ | refine Below.al ?_ _ | refine Below.drew ?_ | apply Below.st1)) ?_; unfold wpMix; simp only [pick, j1, j2, j3, j4]; (repeat (show wpQuiet _ _ _ _ (_ :: _) _; go_big_quiet_step (fail))); refine qn ?_)
  go_wp2_with fail
  (refine segw (D := On w1) (by unfold On; repeat (with_reducible first | assumption | exact jb _ _ | refine Below.al ?_ _ | refine Below.drew ?_ | apply Below.st1)) ?_; unfold wpMix; simp only [pick, j1, j2, j3, j4]; (repeat (show wpQuiet _ _ _ _ (_ :: _) _; go_big_quiet_step (fail))); refine qn ?_)
  go_wp2_with fail
  go_ret
  unfold StOut
  rw [HS.out]
  have hb4 : Below w.heap.size w ((w1.alloc (.cells #[.int .i64 hh.tx.node, .int .i64 hh.tx.life, .int .i64 hh.tx.num, .bool hh.yes, .int .i64 hh.stamp.wall, .int .i64 hh.stamp.logic, .int .i64 hh.stamp.node, .slice uA hh.nodes.length uc] 213)).drew) := (H1.out.1.al _).drew
  exact ⟨rfl, ⟨v, HB.out.1.ext hb4, (HB.out.2.same (js hb4)).mono fun k hk => .inl hk⟩, jo hb4⟩
end Go.Proofs.YtcmjgghkmdbphaaGreatDoor
namespace Go.Proofs.YtcmjgghkmdbphaaGreatDoor
open Go.RowKit
theorem outcome_out (g : Nat) (s : St) (r : Rec) (nA pA sA : Option Addr) (nc pc sc : Nat) (P Q : Nat → Prop) (w : World) (h : StAt w P g s) (hg : ¬ P g) (_hF : Fit s)
 (hr : RecAt w Q r nA nc pA pc sA sc) (_hQ : ¬ Q g) (hln : r.nodes.length ≤ 1000000) (_hd : ∀ p ∈ r.batch.puts, p.data.length ≤ 1000000) (_hT : Tabs w) (_h2 : 2 ≤ g) :
 Calls Tryz.prog 92 #[ptrV g, .agg (r.cells nA nc pA pc sA sc).toArray] w (StOut w P g (outcomeS s r)) :=
 outcome_any g s r nA pA sA nc pc sc P Q w h hg hr hln
theorem forget_out (g : Nat) (s : St) (r : Rec) (nA pA sA : Option Addr) (nc pc sc : Nat) (P Q : Nat → Prop) (w : World) (h : StAt w P g s) (hg : ¬ P g) (_hF : Fit s)
 (hr : RecAt w Q r nA nc pA pc sA sc) (_hQ : ¬ Q g) (hln : r.nodes.length ≤ 1000000) (_hd : ∀ p ∈ r.batch.puts, p.data.length ≤ 1000000) (_hT : Tabs w) (_h2 : 2 ≤ g) :
 Calls Tryz.prog 93 #[ptrV g, .agg (r.cells nA nc pA pc sA sc).toArray] w (StOut w P g (forgetS s r)) :=
 forget_any g s r nA pA sA nc pc sc P Q w h hg hr hln
end Go.Proofs.YtcmjgghkmdbphaaGreatDoor
