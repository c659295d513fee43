/- every record keeps the invariant (plain law). What the invariant of a state gives for the walks. state: Log, Ranges and the rest that is told. Ranging over a map within a range over a function: the laws of Mf for fenced goals. maps.Keys at transactions: the iterator. slices.Collect at transactions. The keys of a map at transactions, collected. -/
import Derived.Test.YtcmjgghkmdbphaaGreatDoorT17
import Derived.Test.YtcmjgghkmdbphaaGreatDoorT16
import Derived.Test.YtcmjgghkmdbphaaGreatDoorT11
import Derived.Test.YtcmjgghkmdbphaaGreatDoorT02
import Derived.Test.YtcmjgghkmdbphaaGreatDoorT08
import Derived.Sort.MapsRangeIn
import Derived.RangeFuncGives
import Derived.WalkKit
import Derived.OwnWalkIn
import Derived.TacticsInMore
import Derived.RegionIn
import Derived.LoopNIn
import Derived.LoopIn
import Derived.Shelf.SlIter.Collect
set_option maxRecDepth 20000
set_option maxHeartbeats 25600000
namespace Go.Proofs.YtcmjgghkmdbphaaGreatDoor
open Go.RowKit
theorem evT_nil (n : Str) : evT [] n = [] := rfl
theorem inv_new {self nodes : Int} {s : St} (h : newS self nodes = some s) : Inv s 0 := by
 unfold newS at h
 split at h
 ·cases h
 ·rename_i hc
  injection h with h
  subst h
  have hr : soundR (newR nodes).1 = true := by
   have : nodes = 1 ∨ nodes = 2 ∨ nodes = 3 ∨ nodes = 4 ∨ nodes = 5 := by omega
   rcases this with rfl | rfl | rfl | rfl | rfl <;> rfl
  refine ⟨?_, hr, Tab.Ok.nil_, by simp [heldD], fun n => by simp [heldD, evT_nil], fun n => by simp [heldD, kyT, getA], by simp [heldD], by simp, by simp, by simp, by simp, by simp⟩
  simp only []; omega
theorem HeldOk.of {s s' : St} {h : Held} (k : HeldOk s h) (h1 : ∀ p ∈ h.batch.puts, versionT s'.table p.stream = versionT s.table p.stream) (h2 : ∀ p ∈ h.batch.puts, servesS s' p.stream = true) (h3 : ∀ p ∈ h.batch.puts, ∀ f ∈ s'.frozen, f.range.has (hashS p.stream) = false) : HeldOk s' h :=
 ⟨k.check, by rw [k.firsts]; exact List.map_congr_left fun p hp => by rw [h1 p hp], h2, h3⟩
theorem Inv.same {s s' : St} {N : Nat} (h : Inv s N) (h1 : s'.self = s.self) (h2 : s'.nodes = s.nodes) (h3 : s'.ring = s.ring) (h4 : s'.table = s.table) (h5 : s'.held = s.held) (h6 : s'.frozen = s.frozen) (h7 : s'.log = s.log) : Inv s' N := by
 refine ⟨by rw [h1, h2]; exact h.self, by rw [h3]; exact h.ring, by rw [h4]; exact h.tab, by rw [h4, h5]; exact h.size, by rw [h4, h5]; exact h.evs, by rw [h4, h5]; exact h.kys, by rw [h7, h5]; exact h.log, ?_, by rw [h5]; exact h.apart, by rw [h5]; exact h.nd, by rw [h6, h3, h1]; exact h.frozen, by rw [h6]; exact h.fnd⟩
 intro p hp
 rw [h5] at hp
 have := h.held p hp
 exact this.of (fun q _ => by rw [h4]) (fun q hq => by have := this.serves q hq; unfold servesS at this ⊢; rw [h3, h1]; exact this) (by rw [h6]; exact this.warm)
theorem filter_len_le {α : Type} (p : α → Bool) (l : List α) : (l.filter p).length ≤ l.length := List.length_filter_le _ _
theorem Inv.put {s s' : St} {N : Nat} {b : Batch} {st : Stamp} (h : Inv s N) (hc : checkB b = 0) (hp : PutS s b st s') (hf : ∀ p ∈ s.held, ∀ a ∈ p.2.batch.puts, ∀ q ∈ b.puts, a.stream ≠ q.stream) : Inv s' (N + sumD b.puts) := by
 have hle := puts_le_sum (checkB_good hc).putOk
 have hm : (makeB b (firstsT s.table b.puts) st 0).length = sumD b.puts := makeF_sum _ _ _ _ _
 have hr := hp.rest
 have e5 : s'.held = s.held := by rw [hr]
 have e6 : s'.frozen = s.frozen := by rw [hr]
 have e3 : s'.ring = s.ring := by rw [hr]
 have e1 : s'.self = s.self := by rw [hr]
 refine ⟨by rw [hr]; exact h.self, by rw [hr]; exact h.ring, hp.ok, ?_, fun n => ?_, fun n => ?_, ?_, ?_, by rw [e5]; exact h.apart, by rw [e5]; exact h.nd, by rw [e6, e3, e1]; exact h.frozen, by rw [e6]; exact h.fnd⟩
 ·rw [e5]; have := hp.size; have := h.size; omega
 ·rw [e5, hp.evs, List.length_append]
  have h1 := filter_len_le (fun e => decide (e.stream = n)) (makeB b (firstsT s.table b.puts) st 0)
  have h2 := h.evs n
  omega
 ·rw [e5]; have := hp.kys n; have := h.kys n; omega
 ·rw [e5, hp.log, List.length_append]; have := h.log; omega
 ·intro p hpp
  rw [e5] at hpp
  have := h.held p hpp
  refine this.of (fun q hq => ?_) (fun q hq => by have := this.serves q hq; unfold servesS at this ⊢; rw [e3, e1]; exact this) (by rw [e6]; exact this.warm)
  rw [version_ev, version_ev, hp.evs, List.filter_eq_nil_iff.2, List.append_nil]
  intro e he
  obtain ⟨⟨q', hq', e1⟩, _⟩ := makeF_stream _ _ _ _ _ he
  simp only [decide_eq_true_eq]
  intro e2
  exact hf p hpp q hq q' hq' (e2.symm.trans e1.symm)
theorem busy_free {s : St} {b : Batch} (h : ∀ p ∈ b.puts, busyS s p.stream = false) : (∀ p ∈ s.held, ∀ a ∈ p.2.batch.puts, ∀ q ∈ b.puts, a.stream ≠ q.stream) ∧ ∀ q ∈ b.puts, ∀ f ∈ s.frozen, f.range.has (hashS q.stream) = false := by
 refine ⟨fun p hp a ha q hq e => ?_, fun q hq f hf => ?_⟩ <;>
 ·have := h q hq
  unfold busyS at this
  simp only [Bool.or_eq_false_iff, List.any_eq_false] at this
  first
   | exact this.2 p hp (by rw [List.any_eq_true]; exact ⟨a, ha, by simpa using e⟩)
   | simpa using this.1 f hf
theorem heldD_put {l : List (Tx × Held)} {tx : Tx} {h : Held} (hn : getA tx l = none) : heldD (putA tx h l) = heldD l + sumD h.batch.puts := by
 induction l with
 | nil => simp [putA, heldD]
 | cons p l ih =>
   obtain ⟨x, v⟩ := p
   unfold getA at hn
   split at hn
   ·cases hn
   ·rename_i hne
    unfold putA
    rw [if_neg hne]
    have := ih hn
    simp only [heldD, List.map_cons, List.sum_cons] at *
    omega
theorem heldD_del {l : List (Tx × Held)} {tx : Tx} {h : Held} (hn : getA tx l = some h) : heldD (delA tx l) + sumD h.batch.puts = heldD l := by
 induction l with
 | nil => cases hn
 | cons p l ih =>
   obtain ⟨x, v⟩ := p
   unfold getA at hn
   unfold delA
   split at hn
   ·rename_i hx
    injection hn with hn; subst hn
    rw [if_pos hx]
    simp only [heldD, List.map_cons, List.sum_cons]; omega
   ·rename_i hne
    rw [if_neg hne]
    have := ih hn
    simp only [heldD, List.map_cons, List.sum_cons] at *
    omega
theorem putA_new {κ β : Type} [DecidableEq κ] {k : κ} {v : β} {l : List (κ × β)} (h : getA k l = none) : putA k v l = l ++ [(k, v)] := by
 induction l with
 | nil => rfl
 | cons p l ih =>
   obtain ⟨x, u⟩ := p
   unfold getA at h
   split at h
   ·cases h
   ·rename_i hne
    unfold putA
    rw [if_neg hne, ih h]; rfl
theorem commit_inv {s : St} {N : Nat} {r : Rec} (h : Inv s N) (hN : N ≤ 1000000) (hst : soundB r.stamp = true) : Inv (commitS s r).1 (N + sumD r.batch.puts) := by
 unfold commitS
 split
 ·rename_i hz
  obtain ⟨h1, h2, h3, h4, h5⟩ := mayS_zero hz
  rw [h4]
  exact h.put h1 (putS_spec h.tab h1 hst fun n => by have := h.evs n; omega) (busy_free fun p hp => (h2 p hp).2).1
 ·exact h.mono (by omega)
theorem prepare_inv {s : St} {N : Nat} {r : Rec} (h : Inv s N) : Inv (prepareS s r).1 (N + sumD r.batch.puts) := by
 unfold prepareS
 split
 ·exact h.mono (by omega)
 ·rename_i hno
  split
  ·exact h.mono (by omega)
  ·split
   ·rename_i hz
    obtain ⟨h1, h2, h3, h4, h5⟩ := mayS_zero hz
    have hn : getA r.tx s.held = none := by
     cases h : getA r.tx s.held with
     | none => rfl
     | some x => rw [h] at hno; simp at hno
    have hd := heldD_put (h := ⟨r.tx, r.batch, r.stamp, (mayS s r.batch).1⟩) hn
    simp only at hd
    obtain ⟨b1, b2⟩ := busy_free fun p hp => (h2 p hp).2
    have hmem : ∀ {p : Tx × Held}, p ∈ putA r.tx ⟨r.tx, r.batch, r.stamp, (mayS s r.batch).1⟩ s.held → p ∈ s.held ∨ p = (r.tx, ⟨r.tx, r.batch, r.stamp, (mayS s r.batch).1⟩) := fun {p} hp => by
     rw [putA_new hn] at hp
     rcases List.mem_append.1 hp with hp | hp
     ·exact .inl hp
     ·exact .inr (by simpa using hp)
    refine ⟨h.self, h.ring, h.tab, ?_, fun n => ?_, fun n => ?_, ?_, fun p hp => ?_, ?_, putA_nodup h.nd, h.frozen, h.fnd⟩
    ·simp only [hd]; have := h.size; omega
    ·simp only [hd]; have := h.evs n; omega
    ·simp only [hd]; have := h.kys n; omega
    ·simp only [hd]; have := h.log; omega
    ·rcases hmem hp with hp | rfl
     ·exact (h.held p hp).of (fun _ _ => rfl) (h.held p hp).serves (h.held p hp).warm
     ·exact ⟨h1, h4, fun p hp => (h2 p hp).1, b2⟩
    ·show (putA _ _ _).Pairwise _
     rw [putA_new hn, List.pairwise_append]
     refine ⟨h.apart, by simp, fun p hp q hq => ?_⟩
     simp only [List.mem_singleton] at hq
     subst hq
     exact b1 p hp
   ·exact h.mono (by omega)
theorem undo_inv {s : St} {N : Nat} {tx : Tx} {hd : Held} (h : Inv s N) (hg : getA tx s.held = some hd) (dec : List (Tx × Int)) : ∃ M, M + sumD hd.batch.puts = N ∧ Inv { s with held := delA tx s.held, decided := dec } M ∧ ∀ p ∈ delA tx s.held, ∀ a ∈ p.2.batch.puts, ∀ q ∈ hd.batch.puts, a.stream ≠ q.stream := by
 have hs := heldD_del hg
 have h1 := h.size
 refine ⟨N - sumD hd.batch.puts, by omega, ?_, ?_⟩
 ·have hsub := delA_sub tx s.held
  refine ⟨h.self, h.ring, h.tab, by simp only []; omega, fun n => by have := h.evs n; simp only []; omega, fun n => by have := h.kys n; simp only []; omega, by have := h.log; simp only []; omega, fun p hp => ?_, h.apart.sublist hsub, delA_nodup h.nd, h.frozen, h.fnd⟩
  have := h.held p (hsub.subset hp)
  exact this.of (fun _ _ => rfl) this.serves this.warm
 ·have hap := h.apart
  have hnd := h.nd
  clear hs h1
  generalize s.held = l at *
  induction l with
  | nil => cases hg
  | cons p l ih =>
    obtain ⟨x, v⟩ := p
    rw [List.pairwise_cons] at hap
    simp only [List.map_cons, List.nodup_cons] at hnd
    unfold getA at hg
    unfold delA
    split at hg
    ·rename_i hx
     injection hg with hg; subst hg
     rw [if_pos hx]
     exact fun p hp a ha q hq e => hap.1 p hp q hq a ha e.symm
    ·rename_i hne
     rw [if_neg hne]
     intro p hp
     rcases List.mem_cons.1 hp with rfl | hp
     ·exact fun a ha q hq => hap.1 _ (getA_mem hg) a ha q hq
     ·exact ih hg hap.2 hnd.2 p hp
theorem decide_inv {s : St} {N : Nat} {r : Rec} (h : Inv s N) (hN : N ≤ 1000000) (hst : soundB r.stamp = true) : Inv (decideS s r).1 N := by
 unfold decideS
 cases hg : getA r.tx s.held with
 | none => exact h
 | some hd =>
   obtain ⟨M, hM, hI, hF⟩ := undo_inv h hg (putA r.tx 1 s.decided)
   have hh := h.held _ (getA_mem hg)
   dsimp only
   split
   ·have e : hd.firsts = firstsT s.table hd.batch.puts := hh.firsts
    have := hI.put hh.check (putS_spec (st := r.stamp) hI.tab hh.check hst fun n => by have := hI.evs n; omega) hF
    rw [hM] at this
    rw [e]
    exact this
   ·exact hI.mono (by omega)
theorem outcome_inv {s : St} {N : Nat} {r : Rec} (h : Inv s N) : Inv (outcomeS s r).1 N := by
 unfold outcomeS
 split
 ·exact h
 ·split
  ·exact h
  ·exact h.same rfl rfl rfl rfl rfl rfl rfl
theorem forget_inv {s : St} {N : Nat} {r : Rec} (h : Inv s N) : Inv (forgetS s r).1 N := by
 unfold forgetS
 split
 ·exact h
 ·exact h.same rfl rfl rfl rfl rfl rfl rfl
theorem iced_neg {s : St} {k : Int} (h : ¬ 0 ≤ icedS s k) : ∀ f ∈ s.frozen, f.range.has k = false := by
 unfold icedS at h
 rcases idxI_spec (fun f : Rec => f.range.has k) s.frozen with ⟨_, hn⟩ | ⟨a, x, b, _, _, _, hi⟩
 ·exact hn
 ·rw [hi] at h; omega
theorem split_inv {s : St} {N : Nat} {r : Rec} (h : Inv s N) : Inv (splitS s r).1 N := by
 unfold splitS
 split
 ·exact h
 ·rename_i hc
  split
  ·exact h
  ·rename_i hc2
   simp only [not_or] at hc hc2
   split
   ·rename_i hz
    obtain ⟨a, x, b, hl, hx, hne, he, hs, _⟩ := split_spec hz
    have hice := iced_neg hc2.1
    have hf : (findR s.ring r.n).1 = x := by
     obtain ⟨m1, m2, _⟩ := find_mem (by simpa using hc.1 : (findR s.ring r.n).2 = true)
     exact soundFrom_uniq (sound_iff.1 h.ring).1 m1 (by rw [hl]; simp) m2 hx
    have hown : x.owner = s.self := by rw [← hf]; simpa using hc.2
    refine ⟨h.self, hs, h.tab, h.size, h.evs, h.kys, h.log, fun p hp => ?_, h.apart, h.nd, fun f hf => ?_, h.fnd⟩
    ·have hh := h.held p hp
     refine hh.of (fun _ _ => rfl) (fun q hq => ?_) hh.warm
     have := hh.serves q hq
     rw [serves_iff h.ring] at this
     rw [serves_iff hs]
     obtain ⟨y, hy, hy1, hy2⟩ := this
     show ∃ x ∈ (splitR s.ring r.n).1, _
     rw [he]
     rw [hl] at hy
     rcases List.mem_append.1 hy with hy | hy
     ·exact ⟨y, by simp [hy], hy1, hy2⟩
     ·rcases List.mem_cons.1 hy with rfl | hy
      ·rw [has_iff] at hy1
       by_cases hh : hashS q.stream < r.n
       ·exact ⟨{ y with last := r.n - 1, epoch := y.epoch + 1 }, by simp, has_iff.2 ⟨hy1.1, by simp only []; omega⟩, hy2⟩
       ·exact ⟨{ y with first := r.n, epoch := y.epoch + 1 }, by simp, has_iff.2 ⟨by simp only []; omega, hy1.2⟩, hy2⟩
      ·exact ⟨y, by simp [hy], hy1, hy2⟩
    ·obtain ⟨f1, f2, f3⟩ := h.frozen f hf
     refine ⟨?_, f2, f3⟩
     show f.range ∈ (splitR s.ring r.n).1
     rw [he]
     rw [hl] at f1
     rcases List.mem_append.1 f1 with hy | hy
     ·simp [hy]
     ·rcases List.mem_cons.1 hy with e | hy
      ·have := hice f hf
       rw [e, hx] at this; cases this
      ·simp [hy]
   ·exact h
theorem locked_false {s : St} {r : Range} (h : ¬ lockedS s r = true) : ∀ p ∈ s.held, ∀ q ∈ p.2.batch.puts, r.has (hashS q.stream) = false := by
 intro p hp q hq
 cases hc : r.has (hashS q.stream) with
 | false => rfl
 | true =>
   exact (h (by unfold lockedS; rw [List.any_eq_true]; exact ⟨p, hp, by rw [List.any_eq_true]; exact ⟨q, hq, hc⟩⟩)).elim
theorem freeze_inv {s : St} {N : Nat} {r : Rec} (h : Inv s N) : Inv (freezeS s r).1 N := by
 unfold freezeS
 split
 ·exact h
 ·rename_i hc
  split
  ·exact h
  ·rename_i hc2
   split
   ·exact h
   ·rename_i hc3
    simp only [not_or, Decidable.not_not] at hc hc2 hc3
    have hl := locked_false hc2.2
    have hice := iced_neg hc2.1
    refine ⟨h.self, h.ring, h.tab, h.size, h.evs, h.kys, h.log, fun p hp => ?_, h.apart, h.nd, fun f hf => ?_, ?_⟩
    ·have hh := h.held p hp
     refine hh.of (fun _ _ => rfl) hh.serves (fun q hq f hf => ?_)
     rcases List.mem_append.1 hf with hf | hf
     ·exact hh.warm q hq f hf
     ·simp only [List.mem_singleton] at hf; subst hf
      exact hl p hp q hq
    ·rcases List.mem_append.1 hf with hf | hf
     ·exact h.frozen f hf
     ·simp only [List.mem_singleton] at hf; subst hf
      exact ⟨hc.1, hc.2, hc3.2.2⟩
    ·show ((s.frozen ++ [r]).map Rec.range).Nodup
     rw [List.map_append, List.nodup_append]
     refine ⟨h.fnd, by simp, fun x hx y hy e => ?_⟩
     simp only [List.map_cons, List.map_nil, List.mem_singleton] at hy
     subst hy; subst e
     obtain ⟨f, hf, e⟩ := List.mem_map.1 hx
     have := hice f hf
     rw [e] at this
     have hm := soundFrom_mem (sound_iff.1 h.ring).1 hc.1
     rw [has_iff.2 ⟨Int.le_refl _, hm.2.1⟩] at this; cases this
theorem foldl_del {T : Tab} (l : List Str) (hT : (T.map (·.1)).Nodup) (n : Str) : (n ∈ l → getA n (l.foldl (fun T n => delA n T) T) = none) ∧ (n ∉ l → getA n (l.foldl (fun T n => delA n T) T) = getA n T) := by
 induction l generalizing T with
 | nil => simp
 | cons x l ih =>
   rw [List.foldl_cons]
   obtain ⟨i1, i2⟩ := ih (delA_nodup (k := x) hT)
   rw [getA_del hT] at i2
   by_cases h1 : n ∈ l
   ·exact ⟨fun _ => i1 h1, fun q => (q (by simp [h1])).elim⟩
   ·rw [i2 h1]
    by_cases h2 : n = x
    ·simp [h2]
    ·simp [h1, h2]
theorem foldl_del_sub {T : Tab} (l : List Str) : (l.foldl (fun T n => delA n T) T).Sublist T := by
 induction l generalizing T with
 | nil => exact List.Sublist.refl _
 | cons x l ih => rw [List.foldl_cons]; exact ih.trans (delA_sub x T)
theorem drop_get {T : Tab} (hT : T.Ok) (r : Range) (n : Str) : getA n (dropT T r) = if inR r n = true then none else getA n T := by
 unfold dropT
 obtain ⟨h3, h4⟩ := foldl_del (someT T r) hT.nd n
 unfold someT at h3 h4 ⊢
 simp only [List.mem_filter, mem_sort] at h3 h4
 by_cases h1 : inR r n = true
 ·rw [if_pos h1]
  by_cases h2 : n ∈ T.map (·.1)
  ·exact h3 ⟨h2, h1⟩
  ·rw [h4 (fun q => h2 q.1)]; exact getA_none.2 h2
 ·rw [if_neg h1]; exact h4 (fun q => h1 q.2)
theorem drop_ok {T : Tab} (hT : T.Ok) (r : Range) : (dropT T r).Ok ∧ (dropT T r).length ≤ T.length := by
 have hs := foldl_del_sub (T := T) (someT T r)
 exact ⟨⟨hT.nd.sublist (hs.map _), fun p hp => hT.each p (hs.subset hp)⟩, hs.length_le⟩
theorem drop_ev {T : Tab} (hT : T.Ok) (r : Range) (n : Str) : evT (dropT T r) n = (if inR r n = true then [] else evT T n) ∧ kyT (dropT T r) n = (if inR r n = true then [] else kyT T n) := by
 unfold evT kyT
 rw [drop_get hT]
 by_cases h : inR r n = true <;> simp [h]
theorem putT_zero {l : List Stream} {T T' : Tab} (h : (putT l T).2 = 0) : okPut [] l = true ∧ putT l T' = (putAll l T', 0) := by
 unfold putT at h ⊢
 split at h
 ·rename_i h1; exact ⟨h1, if_pos h1⟩
 ·cases h
theorem putAll_len {l : List Stream} {T : Tab} : (putAll l T).length ≤ T.length + l.length := by
 unfold putAll
 induction l generalizing T with
 | nil => simp
 | cons s l ih =>
   rw [List.foldl_cons, List.length_cons]
   have h1 := ih (T := putA s.name ⟨s.events, keysOf s.keys⟩ T)
   have h2 := putA_len s.name (⟨s.events, keysOf s.keys⟩ : TS) T
   omega
theorem keysOf_len (l : List Known) : (keysOf l).length ≤ l.length := by
 have : ∀ (l : List Known) (m : List (Str × Known)), (l.foldl (fun m k => putA k.key k m) m).length ≤ m.length + l.length := by
  intro l
  induction l with
  | nil => simp
  | cons k l ih =>
    intro m
    rw [List.foldl_cons, List.length_cons]
    have h1 := ih (putA k.key k m)
    have h2 := putA_len k.key k m
    omega
 have h := this l []
 rwa [List.length_nil, Nat.zero_add] at h
def streamsD (l : List Stream) : Nat := (l.map fun s => s.events.length + s.keys.length + 1).sum
theorem streamsD_mem {l : List Stream} {s : Stream} (h : s ∈ l) : s.events.length + s.keys.length + 1 ≤ streamsD l := by
 unfold streamsD
 induction l with
 | nil => cases h
 | cons x l ih =>
   simp only [List.map_cons, List.sum_cons]
   rcases List.mem_cons.1 h with rfl | h
   ·omega
   ·have := ih h; omega
theorem streamsD_len (l : List Stream) : l.length ≤ streamsD l := by
 unfold streamsD
 induction l with
 | nil => simp
 | cons x l ih => simp only [List.map_cons, List.sum_cons, List.length_cons]; omega
theorem putAll_ev {l : List Stream} {T : Tab} (hn : (l.map Stream.name).Nodup) (n : Str) : (∃ s ∈ l, s.name = n ∧ evT (putAll l T) n = s.events ∧ kyT (putAll l T) n = keysOf s.keys) ∨ ((∀ s ∈ l, s.name ≠ n) ∧ evT (putAll l T) n = evT T n ∧ kyT (putAll l T) n = kyT T n) := by
 by_cases h : n ∈ l.map Stream.name
 ·obtain ⟨s, hs, rfl⟩ := List.mem_map.1 h
  left
  refine ⟨s, hs, rfl, ?_, ?_⟩
  ·unfold evT; rw [putAll_in hn hs]; rfl
  ·unfold kyT; rw [putAll_in hn hs]; rfl
 ·right
  refine ⟨fun s hs e => h (List.mem_map.2 ⟨s, hs, e⟩), ?_, ?_⟩
  ·unfold evT; rw [putAll_out h]
  ·unfold kyT; rw [putAll_out h]
theorem newer_iff {s : St} {r : Range} : newerS s r = true ↔ r.owner = s.self ∧ ∀ x ∈ s.ring, ¬ (r.first ≤ r.last ∧ x.first ≤ r.last ∧ r.first ≤ x.last ∧ (x.owner = s.self ∨ r.epoch ≤ x.epoch)) := by
 unfold newerS
 simp only [Bool.and_eq_true, decide_eq_true_eq, List.all_eq_true, Bool.not_eq_true', Bool.and_eq_false_iff, Bool.or_eq_false_iff, decide_eq_false_iff_not]
 constructor
 ·rintro ⟨h1, h2⟩
  refine ⟨h1, fun x hx q => ?_⟩
  have := h2 x hx
  omega
 ·rintro ⟨h1, h2⟩
  refine ⟨h1, fun x hx => ?_⟩
  have := h2 x hx
  omega
theorem span_iff {r : Range} : spanB r = true ↔ r.first ≤ r.last ∧ r.last ≤ 4294967295 ∧ 1 ≤ r.epoch ∧ r.epoch ≤ 1099511627776 := by
 simp only [spanB, Bool.and_eq_true, decide_eq_true_eq]
theorem install_inv {s : St} {N : Nat} {r : Rec} (h : Inv s N) (hsp : 0 ≤ r.range.first) : Inv (installS s r).1 (N + streamsD r.streams) := by
 unfold installS
 split
 ·exact h.mono (by omega)
 ·rename_i hnew
  split
  ·exact h.mono (by omega)
  ·rename_i hc
   split
   ·exact h.mono (by omega)
   ·rename_i hlen
    simp only [not_or, Decidable.not_not] at hc
    obtain ⟨c1, c2, c3⟩ := hc
    obtain ⟨hok, hput⟩ := putT_zero (T' := dropT (freshT s.table) r.range) c3
    obtain ⟨o1, o2, _⟩ := (okPut_iff _ _).1 hok
    have hnw := newer_iff.1 (by simpa using hnew)
    have hsn := span_iff.1 (by simpa using c1)
    have hself := h.self
    have hring : soundR (aroundR s.ring r.range) = true := around_ok h.ring hsp hsn.1 hsn.2.1 (ownedB_iff.2 ⟨by omega, by omega, hsn.2.2.1, hsn.2.2.2⟩) (by omega)
    have hin : ∀ x ∈ r.streams, r.range.has (hashS x.name) = true := fun x hx => by
     cases hq : r.range.has (hashS x.name) with
     | true => rfl
     | false => exact (c2 (by rw [List.any_eq_true]; exact ⟨x, hx, by rw [hq]; rfl⟩)).elim
    have hout : ∀ x ∈ s.ring, x.owner = s.self → x.last < r.range.first ∨ r.range.last < x.first := fun x hx e => by
     have := hnw.2 x hx
     omega
    obtain ⟨hL, hO⟩ := fresh_like hashS_bd h.tab
    obtain ⟨f1, f2⟩ := fresh_len h.tab
    obtain ⟨d1, d2⟩ := drop_ok hO r.range
    rw [hput]
    dsimp only
    have hev : ∀ n, (evT (putAll r.streams (dropT (freshT s.table) r.range)) n).length ≤ (evT s.table n).length + streamsD r.streams ∧ (kyT (putAll r.streams (dropT (freshT s.table) r.range)) n).length ≤ (kyT s.table n).length + streamsD r.streams := fun n => by
     rcases putAll_ev (T := dropT (freshT s.table) r.range) o2 n with ⟨x, hx, _, e1, e2⟩ | ⟨_, e1, e2⟩
     ·have := streamsD_mem hx
      have := keysOf_len x.keys
      rw [e1, e2]; omega
     ·have h1 := drop_ev hO r.range n
      have h2 := like_ev hL n
      have h3 := f2 n
      rw [e1, e2, h1.1, h1.2, h2]
      split
      ·simp
      ·omega
    have hsv : ∀ n, servesS s n = true → servesS { s with ring := aroundR s.ring r.range, table := putAll r.streams (dropT (freshT s.table) r.range) } n = true ∧ r.range.has (hashS n) = false := fun n hn => by
     rw [serves_iff h.ring] at hn
     obtain ⟨x, hx, h1, h2⟩ := hn
     have hno : r.range.has (hashS n) = false := by
      cases hq : r.range.has (hashS n) with
      | false => rfl
      | true => rw [has_iff] at hq h1; have := hout x hx h2; omega
     refine ⟨?_, hno⟩
     rw [serves_iff hring]
     obtain ⟨y, hy, y1, y2, _⟩ := around_out hx h1 hno
     exact ⟨y, hy, y1, y2.trans h2⟩
    refine ⟨h.self, hring, putAll_ok d1 o1, ?_, fun n => ?_, fun n => ?_, ?_, fun p hp => ?_, h.apart, h.nd, fun f hf => ?_, h.fnd⟩
    ·have := putAll_len (l := r.streams) (T := dropT (freshT s.table) r.range)
     have := streamsD_len r.streams
     have := h.size
     simp only []; omega
    ·have := (hev n).1; have := h.evs n; simp only []; omega
    ·have := (hev n).2; have := h.kys n; simp only []; omega
    ·have := h.log; simp only []; omega
    ·have hh := h.held p hp
     refine hh.of (fun q hq => ?_) (fun q hq => (hsv _ (hh.serves q hq)).1) hh.warm
     have hno := (hsv _ (hh.serves q hq)).2
     simp only [version_ev]
     rcases putAll_ev (T := dropT (freshT s.table) r.range) o2 q.stream with ⟨x, hx, e, _⟩ | ⟨_, e1, _⟩
     ·have := hin x hx
      rw [e, hno] at this; cases this
     ·rw [e1, (drop_ev hO r.range q.stream).1, if_neg (by unfold inR; rw [hno]; simp), like_ev hL]
    ·obtain ⟨a1, a2, a3⟩ := h.frozen f hf
     refine ⟨List.mem_flatMap.2 ⟨f.range, a1, ?_⟩, a2, a3⟩
     have hm := soundFrom_mem (sound_iff.1 h.ring).1 a1
     rcases hout _ a1 a2 with ho | ho
     ·unfold aroundX
      dsimp only
      rw [if_pos (show f.range.first ≤ min f.range.last (r.range.first - 1) by omega), show min f.range.last (r.range.first - 1) = f.range.last by omega]
      simp
     ·unfold aroundX
      dsimp only
      rw [if_pos (show max f.range.first (r.range.last + 1) ≤ f.range.last by omega), show max f.range.first (r.range.last + 1) = f.range.first by omega]
      simp
theorem eraseIdx_of_split {α : Type} (a b : List α) (x : α) : (a ++ x :: b).eraseIdx a.length = a ++ b := by
 induction a with
 | nil => rfl
 | cons y a ih => simp [ih]
theorem release_inv {s : St} {N : Nat} {r : Rec} (h : Inv s N) : Inv (releaseS s r).1 N := by
 unfold releaseS
 dsimp only
 split
 ·exact h
 ·rename_i hi
  split
  ·exact h
  ·rename_i hc
   split
   ·exact h
   ·rename_i hz
    simp only [Decidable.not_not] at hz
    obtain ⟨a, x, b, hl, e1, e2, he, hs, _, ho⟩ := set_spec hz
    rcases idxI_spec (fun f : Rec => decide (f.range.first = r.range.first) && decide (f.range.last = r.range.last)) s.frozen with ⟨hn, _⟩ | ⟨fa, fx, fb, hfl, _, hfx, hfi⟩
    ·rw [hn] at hi; exact absurd (by omega) hi
    ·simp only [Bool.and_eq_true, decide_eq_true_eq] at hfx
     have hx : x ∈ s.ring := by rw [hl]; simp
     have hxm := soundFrom_mem (sound_iff.1 h.ring).1 hx
     have hfr := h.frozen fx (by rw [hfl]; simp)
     have hfe : fx.range = x := soundFrom_uniq (sound_iff.1 h.ring).1 hfr.1 hx (k := x.first) (has_iff.2 (by omega)) (has_iff.2 (by omega))
     have hera : s.frozen.eraseIdx (idxI (fun f : Rec => decide (f.range.first = r.range.first) && decide (f.range.last = r.range.last)) s.frozen).toNat = fa ++ fb := by
      rw [hfi, hfl]; exact eraseIdx_of_split fa fb fx
     rw [hera]
     have hsub : ∀ f, f ∈ fa ++ fb → f ∈ s.frozen := fun f hf => by
      rw [hfl]
      rcases List.mem_append.1 hf with hf | hf <;> simp [hf]
     have hnd := h.fnd
     rw [hfl, List.map_append, List.map_cons, List.nodup_append] at hnd
     obtain ⟨n1, n2, n3⟩ := hnd
     rw [List.nodup_cons] at n2
     obtain ⟨hL, hO⟩ := fresh_like hashS_bd h.tab
     obtain ⟨f1, f2⟩ := fresh_len h.tab
     obtain ⟨d1, d2⟩ := drop_ok hO r.range
     have hev : ∀ n, (evT (dropT (freshT s.table) r.range) n).length ≤ (evT s.table n).length ∧ (kyT (dropT (freshT s.table) r.range) n).length ≤ (kyT s.table n).length := fun n => by
      have h1 := drop_ev hO r.range n
      have h2 := like_ev hL n
      have h3 := f2 n
      rw [h1.1, h1.2, h2]
      split
      ·simp
      ·omega
     refine ⟨h.self, hs, d1, ?_, fun n => ?_, fun n => ?_, h.log, fun p hp => ?_, h.apart, h.nd, fun f hf => ?_, ?_⟩
     ·have := h.size; simp only []; omega
     ·have := (hev n).1; have := h.evs n; simp only []; omega
     ·have := (hev n).2; have := h.kys n; simp only []; omega
     ·have hh := h.held p hp
      have hno : ∀ q ∈ p.2.batch.puts, r.range.has (hashS q.stream) = false := fun q hq => by
       have := hh.warm q hq fx (by rw [hfl]; simp)
       cases hq : r.range.has (hashS q.stream) with
       | false => rfl
       | true => rw [has_iff] at hq; rw [has_iff.2 (by omega)] at this; cases this
      refine hh.of (fun q hq => ?_) (fun q hq => ?_) (fun q hq f hf => hh.warm q hq f (hsub f hf))
      ·simp only [version_ev]
       rw [(drop_ev hO r.range q.stream).1, if_neg (by unfold inR; rw [hno q hq]; simp), like_ev hL]
      ·have := hh.serves q hq
       rw [serves_iff h.ring] at this
       rw [serves_iff hs]
       obtain ⟨y, hy, y1, y2⟩ := this
       refine ⟨y, ?_, y1, y2⟩
       show y ∈ (setR s.ring r.range).1
       rw [he]
       rw [hl] at hy
       rcases List.mem_append.1 hy with hy | hy
       ·simp [hy]
       ·rcases List.mem_cons.1 hy with rfl | hy
        ·have := hno q hq
         rw [has_iff] at y1
         rw [has_iff.2 (by omega)] at this; cases this
        ·simp [hy]
     ·obtain ⟨a1, a2, a3⟩ := h.frozen f (hsub f hf)
      refine ⟨?_, a2, a3⟩
      show f.range ∈ (setR s.ring r.range).1
      rw [he]
      rw [hl] at a1
      rcases List.mem_append.1 a1 with hy | hy
      ·simp [hy]
      ·rcases List.mem_cons.1 hy with e | hy
       ·exfalso
        rcases List.mem_append.1 hf with hf | hf
        ·exact n3 f.range (List.mem_map.2 ⟨f, hf, rfl⟩) fx.range (by simp) (by rw [e, hfe])
        ·exact n2.1 (List.mem_map.2 ⟨f, hf, by rw [e, hfe]⟩)
       ·simp [hy]
     ·show ((fa ++ fb).map Rec.range).Nodup
      rw [List.map_append, List.nodup_append]
      exact ⟨n1, n2.2, fun x hx y hy => n3 x hx y (by simp [hy])⟩
theorem apply_inv {s : St} {N : Nat} {r : Rec} (h : Inv s N) (hN : N ≤ 1000000) : Inv (applyS s r).1 (N + costR r) := by
 unfold applyS
 split
 ·exact h.mono (by omega)
 ·rename_i hc
  simp only [Decidable.not_not] at hc
  have hk := checkR_kind hc
  have e : costR r = sumD r.batch.puts + streamsD r.streams := rfl
  unfold doS
  split
  ·unfold lifeS; split
   ·exact h.mono (by omega)
   ·exact Inv.mono (Inv.same (s := s) h rfl rfl rfl rfl rfl rfl rfl) (by omega)
  split
  ·unfold ceilS; split
   ·exact h.mono (by omega)
   ·exact Inv.mono (Inv.same (s := s) h rfl rfl rfl rfl rfl rfl rfl) (by omega)
  split
  ·rename_i k; exact (commit_inv h hN (checkR_batch hc (.inl k)).2).mono (by omega)
  split
  ·exact (prepare_inv h).mono (by omega)
  split
  ·rename_i k; exact (decide_inv h hN (checkR_stamp hc (.inl k))).mono (by omega)
  split
  ·exact (outcome_inv h).mono (by omega)
  split
  ·exact (forget_inv h).mono (by omega)
  split
  ·exact (split_inv h).mono (by omega)
  split
  ·exact (freeze_inv h).mono (by omega)
  split
  ·rename_i k; exact (install_inv h (checkR_span hc (.inr (.inl k))).1).mono (by omega)
  ·exact (release_inv h).mono (by omega)
end Go.Proofs.YtcmjgghkmdbphaaGreatDoor
namespace Go.Proofs.YtcmjgghkmdbphaaGreatDoor
open Go.RowKit
theorem nodup_sub_len {α : Type} [BEq α] [LawfulBEq α] {l m : List α} (hn : l.Nodup) (h : ∀ x ∈ l, x ∈ m) : l.length ≤ m.length := by
 induction l generalizing m with
 | nil => simp
 | cons x l ih =>
   simp only [List.nodup_cons] at hn
   have hx := h x (by simp)
   have := ih (m := m.erase x) hn.2 fun y hy => (List.mem_erase_of_ne (fun e : y = x => hn.1 (e ▸ hy))).2 (h y (by simp [hy]))
   rw [List.length_erase_of_mem hx] at this
   have hp : 0 < m.length := List.length_pos_of_mem hx
   rw [List.length_cons]; omega
theorem sound_few {l : List Range} (h : soundR l = true) : l.length ≤ 64 := (sound_iff.1 h).2
theorem i64_of {n : Int} (h : -9000000000000000000 ≤ n ∧ n ≤ 9000000000000000000) : i64 n := ⟨by omega, by omega⟩
theorem sound_fit {s : Stamp} (h : soundB s = true) : s.fit := by
 simp only [soundB, withinB, Bool.and_eq_true, decide_eq_true_eq] at h
 exact ⟨i64_of (by omega), i64_of (by omega), i64_of (by omega)⟩
theorem knownB_fit {k : Known} (h : knownB k = true) : k.fit := by
 obtain ⟨_, h2, h3, h4, h5⟩ := knownB_iff.1 h
 have := keyB_short h2
 exact ⟨by unfold sfit; omega, i64_of (by omega), sound_fit h5⟩
theorem zeroKnown_fit : zeroKnown.fit := ⟨by show (0 : Nat) ≤ _; omega, show i64 0 from i64_of (by omega), ⟨show i64 0 from i64_of (by omega), show i64 0 from i64_of (by omega), show i64 0 from i64_of (by omega)⟩⟩
theorem keys_len {s : TS} {n : Str} (h : s.Ok n) : (streamOf n s).keys.length = s.keys.length := by
 have := congrArg List.length (keys_fst h)
 rw [List.length_map] at this
 rw [this, (sort_perm _).length_eq, List.length_map]
theorem Inv.fit {s : St} {N : Nat} (h : Inv s N) (hN : N ≤ 39000) : Fit s := by
 have hself := h.self
 refine ⟨by omega, by have := sound_few h.ring; omega, fun n => ?_, fun n k => ?_, ?_, ?_, fun x hx => ?_⟩
 ·rw [version_ev]; have := h.evs n; omega
 ·rw [known_ky]
  cases hq : getA k (kyT s.table n) with
  | none => exact zeroKnown_fit
  | some x => exact knownB_fit ((ev_ok h.tab n).2.2.1 _ (getA_mem hq)).2.1
 ·have hsz := h.size
  have hev : ∀ p ∈ s.table, p.2.events.length ≤ 39000 ∧ p.2.keys.length ≤ 39000 := fun p hp => by
   have hg := getA_of_mem h.tab.nd (show (p.1, p.2) ∈ s.table from hp)
   have h1 := h.evs p.1
   have h2 := h.kys p.1
   unfold evT at h1
   unfold kyT at h2
   rw [hg] at h1 h2
   simp only at h1 h2
   omega
  refine ⟨by omega, fun p hp => ⟨by have := (hev p hp).1; omega, by have := (hev p hp).2; omega⟩, ⟨?_, fun x hx => ?_⟩, by have := h.log; omega, fun n => ?_⟩
  ·have h1 : (takeT s.table allHashes).length = (someT s.table allHashes).length := by rw [← take_names]; simp
   have h2 : (someT s.table allHashes).length ≤ s.table.length := by
    unfold someT
    refine Nat.le_trans (List.length_filter_le _ _) ?_
    rw [(sort_perm _).length_eq, List.length_map]; exact Nat.le_refl _
   omega
  ·obtain ⟨t, ht, he, _⟩ := (mem_take h.tab).1 hx
   have h1 := hev _ (getA_mem ht)
   have h2 := keys_len (getA_ok h.tab ht)
   rw [he]
   have h3 : (streamOf x.name t).events = t.events := rfl
   rw [h3, h2]
   simp only at h1
   omega
  ·obtain ⟨hL, _⟩ := fresh_like hashS_bd h.tab
   rw [TS.Like.version hL, version_ev]
   have := h.evs n; omega
 ·have h1 : (s.frozen.map Rec.range).length ≤ s.ring.length := nodup_sub_len h.fnd fun x hx => by
   obtain ⟨f, hf, rfl⟩ := List.mem_map.1 hx
   exact (h.frozen f hf).1
  have := sound_few h.ring
  rw [List.length_map] at h1; omega
 ·have hh := h.held x hx
  have hg := checkB_good hh.check
  refine ⟨hg.few, fun p hp => ⟨(hg.puts p hp).1.1, List.length_pos_iff.2 (hg.puts p hp).2.2.1⟩, ?_, fun n hn => ?_⟩
  ·rw [hh.firsts]; unfold firstsT; rw [List.length_map]; have := hg.few; omega
  ·rw [hh.firsts] at hn
   unfold firstsT at hn
   obtain ⟨p, hp, rfl⟩ := List.mem_map.1 hn
   rw [version_ev]; have := h.evs p.stream; omega
end Go.Proofs.YtcmjgghkmdbphaaGreatDoor
namespace Go.Proofs.YtcmjgghkmdbphaaGreatDoor
open Go.RowKit
theorem sranges_any (g : Nat) (s : St) (P : Nat → Prop) (w : World) (h : StAt w P g s) (hs : s.self ≠ 0) (hl : s.ring.length ≤ 1000000) : Calls Tryz.prog 37 #[ptrV g] w fun e w' => GotOwn RangeR w.heap.size 27 (fun _ => False) s.ring e w' ∧ Below w.heap.size w w' := by
 obtain ⟨v, hB, hI⟩ := h
 have b0 : w.cell? ⟨g, 0, none⟩ = some (.int .i64 s.self) := hB.cell 0
 have b4 : w.cell? ⟨g, 4, none⟩ = some v.ring := hB.cell 4
 have C1 := gone_any g s.self w b0 hs
 obtain ⟨A, c, hv, hc1, hc2, hrow⟩ := hI.ring
 have hvl : v.ring = .slice A s.ring.length c := by injection hv
 rw [hvl] at b4
 have C2 := clone_Range A c s.ring P w hrow (by omega)
 unfold GotOwn at C2
 clear hB hI hv hvl hrow hc1 hc2 hl b0
 unfold ptrV at C1 ⊢
 go_enter Tryz.func37, Tryz.ntmps37
 go_wp2_with fail
 refine C1.mono ?_
 clear C1
 rintro e w' ⟨rfl, rfl⟩
 go_wp2_with fail
 refine C2.mono ?_
 clear C2 b4
 rintro e w' ⟨⟨v2, rfl, hv2⟩, hb2⟩
 have HV := jh (ja hv2 hb2)
 obtain ⟨A2, c2, rfl, _⟩ := hv2.form
 clear hv2 hb2
 go_wp2_with fail
 go_ret
 exact ⟨⟨_, rfl, HV.out.1.plain range_plain⟩, HV.out.2⟩
end Go.Proofs.YtcmjgghkmdbphaaGreatDoor
namespace Go.Proofs.YtcmjgghkmdbphaaGreatDoor
open Go.RowKit Go.ChangeMaps
section
variable {κ : Type} {enc : κ → Value} {w : World} {m it : Nat} {ps left : List (κ × Value)} {F : Fence} {n : Nat} {P : Program}
variable {ops : Array Oper} {rest : List Oper} {o : Oper} {a : Act} {Q : Exit → Act → World → Prop}
theorem wpListIn_range_map (hg : o.guard = none) (mo : Operand) (t : TypeId) (hop : o.op = Op.range t mo) {kt e : TypeId} (ht : P.underlying t = some (.map kt e)) (hm : a.eval mo = .map (some m)) (h : MapAt enc w m ps)
 (hK : ∀ w', IterAt enc w' w.heap.size m ps → Below w.heap.size w w' → w'.heap.size = w.heap.size + 1 → wpListIn F n P ops Q rest (a.put o.dst (.pointer (some ⟨w.heap.size, 0, none⟩))) w') : wpListIn F n P ops Q (o :: rest) a w := by
 refine wpListIn_plain hg fun K' hK' => ?_
 obtain ⟨w', hrun, r1, r2, r3⟩ := run_range_at (P := P) ht h
 unfold Oper.wpIn
 refine ⟨?_, ?_⟩
 ·simp [Oper.about, hop]
 ·rw [Oper.semAt_plain F _ _ (by rw [hop]; intro c hc'; cases hc')]
  simp [execOp, hop, hm, hrun, Result.andThen]
  exact hK' _ _ (hK w' r1 r2 r3)
theorem wpListIn_next_map (hg : o.guard = none) (ito : Operand) (hop : o.op = Op.next ito false) (hit : a.eval ito = .pointer (some ⟨it, 0, none⟩)) (h : IterAt enc w it m left)
 (hDone : left = [] → wpListIn F n P ops Q rest (a.put o.dst (.tuple #[.bool false])) w)
 (hMore : ∀ (i : Nat) (p : κ × Value) (w' : World), left[i]? = some p → IterAt enc w' it m (left.eraseIdx i) → Only (· = it) w w' → w'.heap.size = w.heap.size →
  (∀ w'', w''.heap[m]? = w'.heap[m]? → w''.heap[it]? = w'.heap[it]? → (Instr.entry (.pointer (some ⟨it, 0, none⟩))).run P w'' = .ok (.tuple #[enc p.1, p.2]) w'') → wpListIn F n P ops Q rest (a.put o.dst (.tuple #[.bool true, enc p.1, p.2])) w') : wpListIn F n P ops Q (o :: rest) a w := by
 refine wpListIn_plain hg fun K' hK' => ?_
 unfold Oper.wpIn
 refine ⟨by simp [Oper.about, hop], ?_⟩
 rw [Oper.semAt_plain F _ _ (by rw [hop]; intro c hc'; cases hc')]
 rcases run_next_iter (P := P) o.type h with ⟨h0, hrun⟩ | ⟨i, p, w', hp, hrun, r1, r2, r3, r4⟩
 ·simp [execOp, hop, hit, hrun, Result.andThen]
  exact hK' _ _ (hDone h0)
 ·simp [execOp, hop, hit, hrun, Result.andThen]
  exact hK' _ _ (hMore i p w' hp r1 r2 r3 r4)
theorem wpListIn_range_nil (hg : o.guard = none) (mo : Operand) (t : TypeId) (hop : o.op = Op.range t mo) {kt e : TypeId} (ht : P.underlying t = some (.map kt e)) (hm : a.eval mo = .map none)
 (hK : ∀ w', IterNil w' w.heap.size → Below w.heap.size w w' → w'.heap.size = w.heap.size + 1 → wpListIn F n P ops Q rest (a.put o.dst (.pointer (some ⟨w.heap.size, 0, none⟩))) w') : wpListIn F n P ops Q (o :: rest) a w := by
 refine wpListIn_plain hg fun K' hK' => ?_
 have hrun := run_range_nilMap (P := P) w t kt e ht
 unfold Oper.wpIn
 refine ⟨by simp [Oper.about, hop], ?_⟩
 rw [Oper.semAt_plain F _ _ (by rw [hop]; intro c hc'; cases hc')]
 simp [execOp, hop, hm, hrun, Result.andThen]
 exact hK' _ _ (hK _ ⟨_, _, _, heap_alloc_new w _⟩ ((jb _ _).al _) (by simp))
theorem wpListIn_next_nil (hg : o.guard = none) (ito : Operand) (hop : o.op = Op.next ito false) (hit : a.eval ito = .pointer (some ⟨it, 0, none⟩)) (h : IterNil w it)
 (hDone : wpListIn F n P ops Q rest (a.put o.dst (.tuple #[.bool false])) w) : wpListIn F n P ops Q (o :: rest) a w := by
 refine wpListIn_plain hg fun K' hK' => ?_
 obtain ⟨x, s, b, h⟩ := h
 have hrun : (Instr.next (.pointer (some ⟨it, 0, none⟩)) false o.type).run P w = .ok (.tuple #[.bool false]) w := by
  simp only [Instr.next, getObj, Sem.run_bind, Sem.run, h, Result.andThen]
  rfl
 unfold Oper.wpIn
 refine ⟨by simp [Oper.about, hop], ?_⟩
 rw [Oper.semAt_plain F _ _ (by rw [hop]; intro c hc'; cases hc')]
 simp [execOp, hop, hit, hrun, Result.andThen]
 exact hK' _ _ hDone
end
end Go.Proofs.YtcmjgghkmdbphaaGreatDoor
namespace Go.Proofs.YtcmjgghkmdbphaaGreatDoor
open Go.RowKit Go.ChangeMaps
theorem cons_erase_perm {α : Type} : ∀ (l : List α) (i : Nat) (x : α), l[i]? = some x → (x :: l.eraseIdx i).Perm l
 | [], i, x, h => by simp at h
 | a :: l, 0, x, h => by
   simp at h; subst h
   exact List.Perm.refl _
 | a :: l, i + 1, x, h => by
   simp at h
   rw [List.eraseIdx_cons_succ]
   exact (List.Perm.swap a x _).trans ((cons_erase_perm l i x h).cons a)
theorem Only.grownBy {w w' : World} {it : Nat} (h : Only (· = it) w w') : w.grownBy w' (some it) := ⟨h.os, h.tape, h.output, h.size, fun g hg hn => h.block g hg (fun e => hn (by rw [e]))⟩
theorem below_grown {w w' : World} (h : Below w.heap.size w w') : w.grownBy w' none := ⟨h.os, h.tape, h.output, h.size, fun g hg _ => h.block g hg⟩
theorem IterAt.walk {κ : Type} {enc : κ → Value} {w : World} {it m : Nat} {left : List (κ × Value)} (h : IterAt enc w it m left) : ∃ o : Obj, w.heap[it]? = some o ∧ o.isWalk = true := by
 obtain ⟨es, clk, since, c0, seen, hm, hi, _⟩ := h
 exact ⟨_, hi, rfl⟩
theorem IterAt.walks {κ : Type} {enc : κ → Value} {w w' : World} {it m : Nat} {left : List (κ × Value)} (h : IterAt enc w it m left) (hk : KeepsWalks w w') : IterAt enc w' it m left := by
 obtain ⟨es, clk, since, c0, seen, hm, hi, r⟩ := h
 exact ⟨es, clk, since, c0, seen, hk.same _ _ hm rfl, hk.same _ _ hi rfl, r⟩
set_option maxRecDepth 100000 in
theorem keysH_in (F : Fence) (n : Nat) (h10 : F.fn 223) (hro : F.round = none) (hn : 1 ≤ n) (l Bm m : Nat) (ps : List (Tx × Value)) (J : List Tx → World → Prop)
 (hY : ∀ pre x W, J pre W → pre.length < ps.length → YieldAt F (n - 1) Tryz.prog l #[txE x] W fun e W' => e = .returned (.bool true) ∧ J (pre ++ [x]) W' ∧ KeepsWalks W W')
 (W : World) (hJ : AbidesFrom W.heap.size J) (hm : W.cell? ⟨Bm, 0, none⟩ = some (.map (some m))) (hown : MapAt txE W m ps) (h0 : J [] W) :
 CallsIn F n Tryz.prog 223 #[.func (.yield l) #[] #[], .pointer (some ⟨Bm, 0, none⟩)] W fun e W' => (∃ v, e = .returned v) ∧ ∃ xs : List Tx, xs.Perm (ps.map (·.1)) ∧ J xs W' := by
 refine callsIn_of_wp Tryz.func223 rfl h10 ?_ hro
 simp only [Tryz.ntmps223, List.size_toArray, List.length_cons, List.length_nil, Nat.reduceAdd, Nat.reduceSub, Array.replicate_succ, Array.replicate_zero, List.push_toArray, List.append_toArray, List.nil_append, List.cons_append]
 gi_wp2_with (first
  | (gi_at_range; refine wpListIn_range_map rfl (.tmp 4) 172 rfl Tryz.underlying172 rfl hown ?_; intro w0 hit0 hb0 hs0)
  | gi_in)
 go_frame
 have HY := jh (ja hY hJ)
 clear hY hJ
 gi_loopw [3] (fun _ wr => ∃ (left : List (Tx × Value)) (ss : List Tx), IterAt txE wr W.heap.size m left ∧ (ss ++ left.map (·.1)).Perm (ps.map (·.1)) ∧ J ss wr)
  (fun _ wr => leftLen wr W.heap.size m)
 case atStart =>
  exact ⟨ps, [], hit0, List.Perm.refl _, HY.out.2 [] W w0 none h0 (below_grown hb0) (fun r e => by cases e)⟩
 case round =>
  obtain ⟨left, ss, hit, hp, hJs⟩ := hrel
  have HP := jh hp
  have HL := jh (show leftLen wr W.heap.size m = left.length from hit.len)
  clear hp
  gi_wp2_with (first
   | (gi_at_next; refine wpListIn_next_map rfl (.tmp 5) rfl rfl hit ?_ ?_)
   | gi_in)
  ·intro hl0
   subst hl0
   gi_wp2
   go_end0
   exact ⟨⟨_, rfl⟩, ss, by have := HP.out; simpa using this, hJs⟩
  ·intro i x v w2 hi hit2 hO2 hs2 hen
   have hlen := HP.out.length_eq
   have hil : i < left.length := (List.getElem?_eq_some_iff.1 hi).1
   have hJ2 : J ss w2 := HY.out.2 ss wr w2 (some W.heap.size) hJs hO2.grownBy (fun r e => by cases e; exact ⟨Nat.le_refl _, hit.walk⟩)
   have hJ3 : J ss (w2.alloc (.cells #[.int .i64 x.node, .int .i64 x.life, .int .i64 x.num] 42)) := HY.out.2 ss w2 _ none hJ2 (below_grown ((jb w2.heap.size w2).al _)) (fun r e => by cases e)
   obtain ⟨fn, tmps, assign, body, hy, hR⟩ := HY.out.1 ss x _ hJ3 (by simp only [List.length_append, List.length_map] at hlen; omega)
   replace hen := hen w2 rfl rfl
   have ex : txE x = .agg #[.int .i64 x.node, .int .i64 x.life, .int .i64 x.num] := rfl
   rw [ex] at hen hy ⊢
   clear ex
   have HC := jh (ja hlen (ja hi hit2))
   clear hlen hi hs2 hO2 hit hJs hJ2
   clear hJ3
   gi_wp2
   refine hR.mono ?_
   rintro e W3 ⟨rfl, hJ4, hk3⟩
   have hit3 := (HC.out.2.2.walks (KeepsWalks.alloc w2 _)).walks hk3
   have hl3 : leftLen W3 W.heap.size m = left.length - 1 := by rw [hit3.len, List.length_eraseIdx, if_pos hil]
   have H3 := jh (ja hit3 hl3)
   clear hit3 hl3 hk3
   gi_wp2
   go_roundw
   case rel =>
    refine ⟨left.eraseIdx i, ss ++ [x], H3.out.1, ?_, hJ4⟩
    refine List.Perm.trans ?_ HP.out
    rw [List.append_assoc]
    refine List.Perm.append_left ss ?_
    have h := HC.out.2.1
    rw [map_erase]
    have hx : (left.map (·.1))[i]? = some x := by rw [List.getElem?_map, h]; rfl
    exact cons_erase_perm _ i x hx
   case measure =>
    rw [H3.out.2, HL.out]
    omega
theorem keysH_gives (F : Fence) (n : Nat) (h10 : F.fn 223) (hro : F.round = none) (hn : 1 ≤ n) (Bm m : Nat) (ps : List (Tx × Value)) (w : World) (hBm : Bm < w.heap.size)
 (hm : w.cell? ⟨Bm, 0, none⟩ = some (.map (some m))) (hown : MapAt txE w m ps) :
 SeqGives F n Tryz.prog 223 #[.pointer (some ⟨Bm, 0, none⟩)] txE (fun xs => xs.Perm (ps.map (·.1))) ps.length w := fun l J W hW hJ hY h0 =>
 keysH_in F n h10 hro hn l Bm m ps J hY W hJ ((hW.cell (p := ⟨Bm, 0, none⟩) hBm).trans hm) (hown.ext hW) h0
end Go.Proofs.YtcmjgghkmdbphaaGreatDoor
namespace Go.Proofs.YtcmjgghkmdbphaaGreatDoor
open Go.RowKit Go.Shelf
theorem tx_info : (Tryz.prog.info? 42).map (fun i => (i.zero, i.size, i.bytes)) = some (some (.agg #[.int .i64 0, .int .i64 0, .int .i64 0]), 3, 24) := by kernel_rfl
def loopOf : Option Code → Code × Code
 | some (.seq _ (.seq (.seq _ (.block _ (.rangeFunc _ _ a b))) _)) => (a, b)
 | _ => (.skip, .skip)
noncomputable def apRec (fn : FuncId) (sv : Value) (Bs D : Nat) (st : LoopState) (pend : Option Code) : Loop :=
 { state := st, pending := pend, fn, tmps := #[.slice none 0 0, sv, .pointer (some ⟨Bs, 0, none⟩), undef, .slice none 0 0, undef, sv, undef, undef, undef, undef, undef, undef], params := #[7], assign := (loopOf (Func.body Tryz.f284)).1, body := (loopOf (Func.body Tryz.f284)).2, defers := D }
structure ApAt (w0 : World) (fn : FuncId) (sv : Value) (Bs l D : Nat) (ss : List Tx) (W : World) : Prop where
 box : ∃ v, W.heap[Bs]? = some (.cells #[v] 62 (0, 0)) ∧ W.ownsRow w0.heap.size 42 3 v ss.length (ss.flatMap Tx.cells) ∧ (v = .slice none 0 0 ↔ ss = [])
 L : W.heap[l]? = some (.loop (apRec fn sv Bs D .ready none))
 K : W.heap[D]? = some (.deferred (some []))
 below : Below w0.heap.size w0 W
theorem ap_abides (w0 : World) (fn : FuncId) (sv : Value) (Bs l D B : Nat) (hB : w0.heap.size ≤ B) : AbidesFrom B (ApAt w0 fn sv Bs l D) := fun s W W' row h hg hrow => by
 have hrow' : ∀ r, row = some r → ∃ o : Obj, W.heap[r]? = some o ∧ o.isWalk = true := fun r e => (hrow r e).2
 obtain ⟨v, hv, hr, hn⟩ := h.box
 exact ⟨⟨v, (grownBy_keeps hg hrow' hv rfl).trans hv, ownsRow_abides_a hr hg hrow', hn⟩, (grownBy_keeps hg hrow' h.L rfl).trans h.L, (grownBy_keeps hg hrow' h.K rfl).trans h.K,
  h.below.grown hg h.below.size (fun k e => Nat.le_trans hB (hrow k e).1)⟩
set_option maxRecDepth 100000 in
theorem apYield (F : Fence) (m : Nat) (w0 : World) (fn : FuncId) (hfn : F.fn fn) (sv : Value) (Bs l D : Nat) (hBl : Bs ≠ l) (hDl : D ≠ l) (hDB : D ≠ Bs) (h0B : w0.heap.size ≤ Bs) (h0l : w0.heap.size ≤ l)
 (N : Nat) (hN : N ≤ 1000000) (ss : List Tx) (x : Tx) (W : World) (h : ApAt w0 fn sv Bs l D ss W) (hlen : ss.length < N) :
 YieldAt F m Tryz.prog l #[txE x] W fun e W' => e = .returned (.bool true) ∧ ApAt w0 fn sv Bs l D (ss ++ [x]) W' ∧ KeepsWalks W W' := by
 have hne : (62 : TypeId) ≠ 42 := by decide
 obtain ⟨i0, hi, hz0, hz1, hz2⟩ := info_parts tx_info
 refine ⟨fn, #[.slice none 0 0, sv, .pointer (some ⟨Bs, 0, none⟩), undef, .slice none 0 0, undef, sv, txE x, undef, undef, undef, undef, undef], (loopOf (Func.body Tryz.f284)).1, (loopOf (Func.body Tryz.f284)).2, by simpa [apRec] using run_yield (P := Tryz.prog) (args := #[txE x]) h.L rfl, roundIn_of_wpIn hfn ?_⟩
 have hl0 : l < W.heap.size := (Array.getElem?_eq_some_iff.1 h.L).1
 have BX := Blk.new W 42 x.cells
 obtain ⟨W1, hW1⟩ : ∃ W1, W.alloc (.cells #[.int .i64 x.node, .int .i64 x.life, .int .i64 x.num] 42) = W1 := ⟨_, rfl⟩
 have hW1' : W.alloc (.cells x.cells.toArray 42) = W1 := hW1
 rw [hW1'] at BX
 have hg1 : W.grownBy W1 none := by rw [← hW1]; exact below_grown ((jb W.heap.size W).al _)
 have hk1 : KeepsWalks W W1 := by rw [← hW1]; exact KeepsWalks.alloc _ _
 have hA : ApAt w0 fn sv Bs l D ss W1 := ap_abides w0 fn sv Bs l D w0.heap.size (Nat.le_refl _) ss W W1 none h hg1 (fun r e => by cases e)
 obtain ⟨v, hv, hrow, _⟩ := hA.box
 have hl : l < W1.heap.size := (Array.getElem?_eq_some_iff.1 hA.L).1
 have hbr := run_beginRound (P := Tryz.prog) hA.L rfl
 obtain ⟨W2, hW2⟩ : ∃ W2, W1.putObj l (.loop { apRec fn sv Bs D .ready none with state := .busy }) = W2 := ⟨_, rfl⟩
 rw [hW2] at hbr
 have hg2 : W1.grownBy W2 (some l) := by rw [← hW2]; exact grownBy_putObj_a _ _ _
 have hk2 : KeepsWalks W W2 := hk1.trans (by rw [← hW2]; exact KeepsWalks.putObj _ hA.L rfl)
 have hv2 : W2.heap[Bs]? = some (.cells #[v] 62 (0, 0)) := by rw [← hW2]; exact (World.putObj_heap_other hBl).trans hv
 have hK2 : W2.heap[D]? = some (.deferred (some [])) := by rw [← hW2]; exact (World.putObj_heap_other hDl).trans hA.K
 have hL2 : W2.heap[l]? = some (.loop { apRec fn sv Bs D .ready none with state := .busy }) := by rw [← hW2]; exact World.putObj_heap_same hl
 have hrow2 : W2.ownsRow w0.heap.size 42 3 v ss.length (ss.flatMap Tx.cells) := hrow.kept hg2 (ownsRow_ne_a hrow hA.L (fun cur e => by cases e))
 have hb2 : Below w0.heap.size w0 W2 := hA.below.grown hg2 hA.below.size (fun k e => by cases e; exact h0l)
 obtain ⟨hc2, hf2⟩ := cell_of_box_a hv2
 have hBlt : Bs < W2.heap.size := (Array.getElem?_eq_some_iff.1 hv2).1
 have hl2 : l < W2.heap.size := (Array.getElem?_eq_some_iff.1 hL2).1
 have hDlt : D < W2.heap.size := (Array.getElem?_eq_some_iff.1 hK2).1
 have BX2 := BX.grown hg2 (fun e => by cases e; omega)
 have x0 := BX2.cell 0
 have x1 := BX2.cell 1
 have x2 := BX2.cell 2
 simp only [Tx.cells, List.getElem?_cons_zero, List.getElem?_cons_succ] at x0 x1 x2
 have ne_of : ∀ {j : Nat} {o : Obj}, W2.heap[j]? = some o → (∀ cur, o ≠ .cells cur 42 (0, 0)) → some j ≠ v.ownBlock := fun hj hno => by
  rcases ownsRow_ne_a hrow2 hj hno with e | e
  ·rw [e]; simp
  ·exact fun e' => e e'.symm
 clear hW2 BX BX2 hW1' hA hv hrow h hg1
 dsimp only [loopOf, Tryz.f284]
 unfold txE
 have hcs : ∀ (j : Nat) (u : Value), x.cells[j]? = some u → (W2.alloc (.cells #[.int .i64 x.node, .int .i64 x.life, .int .i64 x.num] 42)).cell? ((⟨W2.heap.size, 0, none⟩ : Addr).add j) = some u := fun j u hj => by
  have := (Blk.new W2 42 x.cells).cell j
  rw [hj] at this
  rw [show ((⟨W2.heap.size, 0, none⟩ : Addr).add j) = ⟨W2.heap.size, j, none⟩ from by cases j <;> simp [Addr.add]]
  exact this
 gi_wp2_with (first
  | (gi_at_builtin; refine wpListIn_append_own _ rfl _ _ 62 rfl w0.heap.size 42 i0 (.agg #[.int .i64 0, .int .i64 0, .int .i64 0]) 3 24 Tryz.underlying62 hi hz0 hz1 hz2 rfl (by decide) _ _ _ rfl (hrow2.alloc _) ⟨W2.heap.size, 0, none⟩ 1 1 x.cells rfl rfl hcs (by simp [Value.oneCell', Tx.cells]) (by simp only [maxLen]; omega) (by omega) (by have := hb2.size; simp; omega) ?_; intro v' w3 hown' hg3 hnil3
     have hv3 : w3.heap[Bs]? = some (.cells #[v] 62 (0, 0)) := (hg3.block Bs (by simp; omega) (ne_of hv2 (fun cur e => by cases e))).trans ((Below.heap_alloc _ _ Bs hBlt).trans hv2)
     obtain ⟨hc3, hf3⟩ := cell_of_box_a hv3
     obtain ⟨g', cap', cur', rfl, hbase', hgb', hr1, hr2, hr3, hr4⟩ : ∃ g' cap' cur', v' = .slice (some ⟨g', 0, none⟩) (ss.length + 1) cap' ∧ w0.heap.size ≤ g' ∧ w3.heap[g']? = some (.cells cur' 42 (0, 0)) ∧ ss.length + 1 ≤ cap' ∧ cap' ≤ maxLen ∧ cur'.size = cap' * 3 ∧ cur'.toList.take ((ss.length + 1) * 3) = ss.flatMap Tx.cells ++ x.cells := by
      rcases hown'.2 with ⟨_, h0⟩ | h'
      ·exact absurd h0 (by omega)
      ·exact h'
     go_frame)
  | gi_round_op_a)
 have hg3' : (W2.alloc (.cells #[.int .i64 x.node, .int .i64 x.life, .int .i64 x.num] 42)).grownBy w3 v.ownBlock := hg3
 have hL3 : w3.heap[l]? = some (.loop { apRec fn sv Bs D .ready none with state := .busy }) := (hg3'.block l (by simp; omega) (ne_of hL2 (fun cur e => by cases e))).trans ((Below.heap_alloc _ _ l hl2).trans hL2)
 have hK3 : w3.heap[D]? = some (.deferred (some [])) := (hg3'.block D (by simp; omega) (ne_of hK2 (fun cur e => by cases e))).trans ((Below.heap_alloc _ _ D hDlt).trans hK2)
 obtain ⟨w4, hw4⟩ : ∃ w4, w3.setCell ⟨Bs, 0, none⟩ (.slice (some ⟨g', 0, none⟩) (ss.length + 1) cap') = w4 := ⟨_, rfl⟩
 rw [hw4]
 have hg4 : w3.grownBy w4 (some Bs) := by rw [← hw4]; exact grownBy_setCell0_a _ _ _
 have hv4 : w4.heap[Bs]? = some (.cells #[.slice (some ⟨g', 0, none⟩) (ss.length + 1) cap'] 62 (0, 0)) := by rw [← hw4]; exact heap_setCell_box_a _ hv3
 have hL4 : w4.heap[l]? = some (.loop { apRec fn sv Bs D .ready none with state := .busy }) := (hg4.block l (Array.getElem?_eq_some_iff.1 hL3).1 (fun e => hBl (by cases e; rfl))).trans hL3
 have hK4 : w4.heap[D]? = some (.deferred (some [])) := (hg4.block D (Array.getElem?_eq_some_iff.1 hK3).1 (fun e => hDB (by cases e; rfl))).trans hK3
 have hrow4 := hown'.kept hg4 (ownsRow_ne_a hown' hv3 (fun cur e => by cases e))
 have hl4 : l < w4.heap.size := (Array.getElem?_eq_some_iff.1 hL4).1
 have hb3 : Below w0.heap.size w0 w3 := (hb2.alloc hb2.size _).grown hg3' (by have := hb2.size; simp; omega) (fun k e => (hrow2.lt k e).1)
 have hb4 : Below w0.heap.size w0 w4 := hb3.grown hg4 hb3.size (fun k e => by cases e; exact h0B)
 have hk4 : KeepsWalks W w4 := ((hk2.trans (KeepsWalks.alloc _ _)).trans (KeepsWalks.of_grownBy hg3' (ownsRow_not_walk_a (hrow2.alloc _)))).trans (by rw [← hw4]; exact KeepsWalks.setCell _ _ _)
 clear hw4
 refine ⟨_, _, run_endRound none hL4, rfl, ⟨⟨_, (World.putObj_heap_other hBl).trans hv4, ?_, by simp⟩, World.putObj_heap_same hl4, (World.putObj_heap_other hDl).trans hK4, hb4.grown (grownBy_putObj_a _ _ _) hb4.size (fun k e => by cases e; exact h0l)⟩, hk4.trans (KeepsWalks.putObj _ hL4 rfl)⟩
 have := hrow4.kept (grownBy_putObj_a w4 l (.loop { { apRec fn sv Bs D .ready none with state := .busy } with state := if (none : Option Code).isNone then .ready else .done, pending := none })) (ownsRow_ne_a hrow4 hL4 (fun cur e => by cases e))
 simpa using this
set_option maxRecDepth 100000 in
theorem appendSeqT_in (F : Fence) (n : Nat) (h11 : F.fn 284) (hro : F.round = none) (hn : 2 ≤ n) (g : Nat) (lb : Array Value) (hFg : F.fn g) (eg : ∀ args w, (callFunc g args).run Tryz.prog w = .ok (.enter g args) w)
 (S : List Tx → Prop) (N : Nat) (hN : N ≤ 1000000) (w : World) (hseq : SeqGives F (n - 1) Tryz.prog g lb txE S N w) :
 CallsIn F n Tryz.prog 284 #[.slice none 0 0, .func (.func g) #[] lb] w fun e w' => ∃ (v : Value) (ss : List Tx), e = .returned v ∧ S ss ∧ w'.ownsRow w.heap.size 42 3 v ss.length (ss.flatMap Tx.cells) ∧ (v = .slice none 0 0 ↔ ss = []) ∧ Below w.heap.size w w' := by
 have h1 : 1 ≤ n := by omega
 refine callsIn_of_wp_marks Tryz.func284 rfl h11 ?_ hro
 simp only [Tryz.ntmps284, List.size_toArray, List.length_cons, List.length_nil, Nat.reduceAdd, Nat.reduceSub, Array.replicate_succ, Array.replicate_zero, List.push_toArray, List.append_toArray, List.nil_append, List.cons_append]
 gi_wp2
 refine wpIn_rangeFunc ?_
 intro fn hfn
 rw [hro]
 obtain ⟨W0, hW0⟩ : ∃ W0, w.alloc (.cells #[.slice none 0 0] 62) = W0 := ⟨_, rfl⟩
 have hs0 : W0.heap.size = w.heap.size + 1 := by rw [← hW0]; simp
 have hv0 : W0.heap[w.heap.size]? = some (.cells #[.slice none 0 0] 62 (0, 0)) := by rw [← hW0]; exact World.alloc_heap_new w _
 have hb0 : Below w.heap.size w W0 := by rw [← hW0]; exact (jb _ w).alloc (Nat.le_refl _) _
 rw [hW0]
 obtain ⟨W1, hW1⟩ : ∃ W1, (W0.alloc (.deferred (some []))).alloc (.loop (apRec fn (.func (.func g) #[] lb) w.heap.size W0.heap.size .ready none)) = W1 := ⟨_, rfl⟩
 have hold : ∀ k, k < W0.heap.size → W1.heap[k]? = W0.heap[k]? := fun k hk => by
  rw [← hW1]; exact (Below.heap_alloc _ _ k (by simp; omega)).trans (Below.heap_alloc _ _ k hk)
 have hb1 : Below w.heap.size w W1 := by rw [← hW1]; exact (hb0.alloc hb0.size _).alloc (by have := hb0.size; simp; omega) _
 have hs1 : W1.heap.size = W0.heap.size + 2 := by rw [← hW1]; simp
 have hM : ApAt w fn (.func (.func g) #[] lb) w.heap.size (W0.heap.size + 1) W0.heap.size [] W1 :=
  ⟨⟨_, (hold w.heap.size (by omega)).trans hv0, ⟨rfl, .inl ⟨rfl, rfl⟩⟩, by simp⟩,
   by rw [← hW1]; have := World.alloc_heap_new (W0.alloc (.deferred (some []))) (.loop (apRec fn (.func (.func g) #[] lb) w.heap.size W0.heap.size .ready none)); rwa [World.size_alloc] at this,
   by rw [← hW1]; exact (Below.heap_alloc _ _ _ (by simp)).trans (World.alloc_heap_new W0 _), hb1⟩
 refine ⟨W0.heap.size + 1, [{ target := .collected W0.heap.size, args := #[] }], W1, { target := .fn (.func g) lb, args := #[.func (.yield (W0.heap.size + 1)) #[] #[]] }, W1, g,
  #[.func (.yield (W0.heap.size + 1)) #[] #[]] ++ lb, W1, ?_, ?_, ?_, ?_, fun _ => h1, ?_⟩
 ·rw [← hW1]; exact run_enterLoop_outer _ _ _ _ _
 ·simp [resolve, go_sem]
 ·intro f' hf'; simp [Target.leads] at hf'; subst hf'; exact hFg
 ·simp [invoke, go_sem, eg]
 ·refine (hseq (W0.heap.size + 1) (ApAt w fn (.func (.func g) #[] lb) w.heap.size (W0.heap.size + 1) W0.heap.size) W1 hb1 (ap_abides _ _ _ _ _ _ _ hb1.size)
   (fun pre x W hJ hl => apYield F (n - 1 - 1) w fn hfn _ w.heap.size (W0.heap.size + 1) W0.heap.size (by omega) (by omega) (by omega) (Nat.le_refl _) (by omega) N hN pre x W hJ hl) hM).mono ?_
  rintro e W2 ⟨⟨v0, rfl⟩, ss, hS, h2⟩
  obtain ⟨v, hv, hrow, hnil⟩ := h2.box
  have hend := run_endLoop (P := Tryz.prog) h2.L (by simp [apRec])
  obtain ⟨W3, hW3⟩ : ∃ W3, W2.putObj (W0.heap.size + 1) (.loop { apRec fn (.func (.func g) #[] lb) w.heap.size W0.heap.size .ready none with state := .exhausted }) = W3 := ⟨_, rfl⟩
  rw [hW3] at hend
  have hg3 : W2.grownBy W3 (some (W0.heap.size + 1)) := by rw [← hW3]; exact grownBy_putObj_a _ _ _
  have hv3 : W3.heap[w.heap.size]? = some (.cells #[v] 62 (0, 0)) := by rw [← hW3]; exact (World.putObj_heap_other (by omega)).trans hv
  have hK3 : W3.heap[W0.heap.size]? = some (.deferred (some [])) := by rw [← hW3]; exact (World.putObj_heap_other (by omega)).trans h2.K
  have hrow3 := hrow.kept hg3 (ownsRow_ne_a hrow h2.L (fun cur e => by cases e))
  have hb3 : Below w.heap.size w W3 := h2.below.grown hg3 h2.below.size (fun k e => by cases e; omega)
  obtain ⟨hc3, hf3⟩ := cell_of_box_a hv3
  clear hW3
  refine ⟨none, W3, hend, ?_⟩
  gi_wp2
  rw [← hs0]
  refine ⟨by simp, .inl ⟨_, _, rfl, run_takeDeferred hK3, ?_⟩⟩
  exact ⟨_, results_tmp rfl _ _ _, v, ss, rfl, hS, hrow3.kept (grownBy_putObj_a _ _ _) (ownsRow_ne_a hrow3 hK3 (fun cur e => by cases e)), hnil, hb3.grown (grownBy_putObj_a _ _ _) hb3.size (fun k e => by cases e; omega)⟩
theorem collectT_in (F : Fence) (n : Nat) (h8 : F.fn 221) (h11 : F.fn 284) (hro : F.round = none) (hn : 3 ≤ n) (g : Nat) (lb : Array Value) (hFg : F.fn g) (eg : ∀ args w, (callFunc g args).run Tryz.prog w = .ok (.enter g args) w)
 (S : List Tx → Prop) (N : Nat) (hN : N ≤ 1000000) (w : World) (hseq : SeqGives F (n - 1 - 1) Tryz.prog g lb txE S N w) :
 CallsIn F n Tryz.prog 221 #[.func (.func g) #[] lb] w fun e w' => ∃ (v : Value) (ss : List Tx), e = .returned v ∧ S ss ∧ w'.ownsRow w.heap.size 42 3 v ss.length (ss.flatMap Tx.cells) ∧ (v = .slice none 0 0 ↔ ss = []) ∧ Below w.heap.size w w' := by
 have h1 : 1 ≤ n := by omega
 have e11 : ∀ args w, (callFunc 284 args).run Tryz.prog w = .ok (.enter 284 args) w := enters_of Tryz.func284 (by kernel_rfl) rfl
 refine callsIn_of_wp Tryz.func221 rfl h8 ?_ hro
 simp only [Tryz.ntmps221, List.size_toArray, List.length_cons, List.length_nil, Nat.reduceAdd, Nat.reduceSub, Array.replicate_succ, Array.replicate_zero, List.push_toArray, List.append_toArray, List.nil_append, List.cons_append]
 gi_wp2_with (gi_at_fn 284; refine (appendSeqT_in F (n - 1) h11 hro (by omega) g lb hFg eg S N hN _ hseq).mono ?_; rintro e w' ⟨v, ss, rfl, hS, hrow, hnil, hb⟩)
 go_ret
 exact ⟨v, ss, rfl, hS, hrow, hnil, hb⟩
end Go.Proofs.YtcmjgghkmdbphaaGreatDoor
namespace Go.Proofs.YtcmjgghkmdbphaaGreatDoor
open Go.RowKit Go.Shelf
theorem keysH_any (mb : Option Nat) (w : World) : Calls Tryz.prog 131 #[.map mb] w fun e w' => e = .returned (.func (.func 223) #[] #[.pointer (some ⟨w.heap.size, 0, none⟩)]) ∧ w' = w.alloc (.cells #[.map mb] 172) := by
 go_enter Tryz.func131, Tryz.ntmps131
 go_wp2
 go_ret
 exact ⟨rfl, rfl⟩
theorem collectH_any (bx m : Nat) (ps : List (Tx × Value)) (w : World) (hx : bx < w.heap.size) (hb : w.cell? ⟨bx, 0, none⟩ = some (.map (some m))) (h : MapAt txE w m ps) (hl : ps.length ≤ 1000000) :
 Calls Tryz.prog 221 #[.func (.func 223) #[] #[.pointer (some ⟨bx, 0, none⟩)]] w fun e w' =>
  ∃ (v : Value) (ss : List Tx), e = .returned v ∧ ss.Perm (ps.map (·.1)) ∧ w'.ownsRow w.heap.size 42 3 v ss.length (ss.flatMap Tx.cells) ∧ (v = .slice none 0 0 ↔ ss = []) ∧ Below w.heap.size w w' :=
 callsIn_wide.1 (collectT_in Fence.wide 5 trivial trivial rfl (by omega) 223 #[.pointer (some ⟨bx, 0, none⟩)] trivial (enters_of Tryz.func223 (by kernel_rfl) rfl) _ ps.length hl w
  (keysH_gives Fence.wide _ trivial rfl (by omega) bx m ps w hx hb h))
end Go.Proofs.YtcmjgghkmdbphaaGreatDoor
