/- tables that answer alike; a table made anew (plain law). what putting a batch in does (plain law). the ring: split, set, laid around (plain law). records that may be; the invariant of a state (plain law). state.Apply: each kind of record. awake. -/
import Derived.Test.YtcmjgghkmdbphaaGreatDoorT08
import Derived.Test.YtcmjgghkmdbphaaGreatDoorT07
import Derived.Test.YtcmjgghkmdbphaaGreatDoorT05
import Derived.Test.YtcmjgghkmdbphaaGreatDoorT15
import Derived.Test.YtcmjgghkmdbphaaGreatDoorT03
import Derived.Test.YtcmjgghkmdbphaaGreatDoorT16
set_option maxRecDepth 20000
set_option maxHeartbeats 25600000
namespace Go.Proofs.YtcmjgghkmdbphaaGreatDoor
open Go.RowKit
theorem sort_perm (l : List Str) : (sortS l).Perm l := List.mergeSort_perm _ _
theorem mem_sort {l : List Str} {x : Str} : x ∈ sortS l ↔ x ∈ l := (sort_perm l).mem_iff
theorem sort_nodup {l : List Str} (h : l.Nodup) : (sortS l).Nodup := (sort_perm l).nodup_iff.2 h
theorem perm_of_mem {α : Type} [DecidableEq α] {l m : List α} (hl : l.Nodup) (hm : m.Nodup) (h : ∀ x, x ∈ l ↔ x ∈ m) : l.Perm m := by
 rw [List.perm_iff_count]
 intro a
 rw [hl.count, hm.count]
 simp only [h a]
theorem goesFrom_iff (l : List Event) (v i : Int) : goesFrom l v i = true ↔ ∀ (j : Nat) (e : Event), l[j]? = some e → e.version = v + 1 + (i + j) := by
 induction l generalizing i with
 | nil => simp [goesFrom]
 | cons e l ih =>
   unfold goesFrom
   rw [Bool.and_eq_true, decide_eq_true_eq, ih]
   constructor
   ·rintro ⟨h1, h2⟩ j x hx
    cases j with
    | zero => simp at hx; subst hx; omega
    | succ j => have := h2 j x (by simpa using hx); omega
   ·intro h
    refine ⟨by have := h 0 e rfl; simpa using this, fun j x hx => ?_⟩
    have := h (j + 1) x (by simpa using hx)
    omega
theorem goes_iff (l : List Event) (v : Int) : goesB l v = true ↔ ∀ (j : Nat) (e : Event), l[j]? = some e → e.version = v + 1 + j := by
 unfold goesB; rw [goesFrom_iff]
 constructor <;> intro h j e he <;> have := h j e he <;> omega
def keyFit (ev : List Event) (k : Known) : Prop := k.first ≤ ev.length ∧ (ev.map Event.stamp).getD (k.first - 1).toNat zeroStamp = k.stamp
theorem metK_zero {l : List Known} {k : Str} : metK l k = 0 ↔ ∀ x ∈ l, x.key ≠ k := by
 unfold metK
 rw [List.length_eq_zero_iff, List.filter_eq_nil_iff]
 simp
theorem keysB_iff (ev : List Event) (l r : List Known) : keysB ev l r = true ↔ (∀ k ∈ r, keyFit ev k) ∧ (r.map Known.key).Nodup ∧ ∀ k ∈ r, ∀ x ∈ l, x.key ≠ k.key := by
 induction r generalizing l with
 | nil => simp [keysB]
 | cons k r ih =>
   unfold keysB
   simp only [Bool.and_eq_true, decide_eq_true_eq, ih, metK_zero, List.mem_cons, List.map_cons, List.nodup_cons, List.mem_append, List.mem_map, not_exists, not_and]
   constructor
   ·rintro ⟨h1, h2, h3, h4, h5, h6⟩
    refine ⟨?_, ⟨?_, h5⟩, ?_⟩
    ·rintro x (rfl | hx)
     ·exact ⟨h2, h3⟩
     ·exact h4 x hx
    ·intro x hx e
     exact h6 x hx k (.inr (.inl rfl)) e.symm
    ·rintro x (rfl | hx) y hy
     ·exact h1 y hy
     ·exact h6 x hx y (.inl hy)
   ·rintro ⟨h1, ⟨h2, h3⟩, h4⟩
    refine ⟨h4 k (.inl rfl), (h1 k (.inl rfl)).1, (h1 k (.inl rfl)).2, fun x hx => h1 x (.inr hx), h3, ?_⟩
    rintro x hx y (hy | rfl | hy)
    ·exact h4 x (.inr hx) y hy
    ·exact fun e => h2 x hx e.symm
    ·cases hy
structure TS.Ok (n : Str) (s : TS) : Prop where
 name : nameB n = true
 full : s.events ≠ []
 evs : ∀ e ∈ s.events, okE n e = true
 goes : ∀ (j : Nat) (e : Event), s.events[j]? = some e → e.version = j + 1
 keys : ∀ p ∈ s.keys, p.2.key = p.1 ∧ knownB p.2 = true ∧ keyFit s.events p.2
 nd : (s.keys.map (·.1)).Nodup
structure Tab.Ok (T : Tab) : Prop where
 nd : (T.map (·.1)).Nodup
 each : ∀ p ∈ T, p.2.Ok p.1
theorem getD_of {α : Type} {o : Option α} {a d : α} (h : o = some a) : o.getD d = a := by rw [h]; rfl
theorem mem_keys {s : TS} {n : Str} (h : s.Ok n) {k : Known} : k ∈ (streamOf n s).keys ↔ (k.key, k) ∈ s.keys := by
 unfold streamOf
 simp only [List.mem_map, mem_sort]
 constructor
 ·rintro ⟨x, ⟨p, hp, rfl⟩, rfl⟩
  rw [getD_of (getA_of_mem h.nd (show (p.1, p.2) ∈ s.keys from hp))]
  rw [(h.keys p hp).1]; exact hp
 ·intro hk
  exact ⟨k.key, ⟨_, hk, rfl⟩, getD_of (getA_of_mem h.nd hk)⟩
theorem keys_fst {s : TS} {n : Str} (h : s.Ok n) : (streamOf n s).keys.map Known.key = sortS (s.keys.map (·.1)) := by
 unfold streamOf
 simp only [List.map_map]
 conv => rhs; rw [← List.map_id (sortS (s.keys.map (·.1)))]
 apply List.map_congr_left
 intro x hx
 rw [mem_sort] at hx
 obtain ⟨p, hp, rfl⟩ := List.mem_map.1 hx
 simp only [Function.comp, id]
 rw [getD_of (getA_of_mem h.nd (show (p.1, p.2) ∈ s.keys from hp))]
 exact (h.keys p hp).1
theorem TS.Ok.whole {s : TS} {n : Str} (h : s.Ok n) : wholeB (streamOf n s) = true := by
 unfold wholeB streamB
 simp only [Bool.and_eq_true, decide_eq_true_eq, List.all_eq_true]
 refine ⟨⟨h.name, h.evs, fun k hk => (h.keys _ ((mem_keys h).1 hk)).2.1⟩, h.full, ?_, ?_⟩
 ·rw [goes_iff]; intro j e he; have := h.goes j e he; omega
 ·rw [keysB_iff]
  refine ⟨fun k hk => (h.keys _ ((mem_keys h).1 hk)).2.2, ?_, fun _ _ x hx => by cases hx⟩
  rw [keys_fst h]; exact sort_nodup h.nd
theorem foldl_putA_out {α κ β : Type} [DecidableEq κ] (f : α → κ) (v : α → β) (l : List α) (m : List (κ × β)) {x : κ} (h : x ∉ l.map f) : getA x (l.foldl (fun m a => putA (f a) (v a) m) m) = getA x m := by
 induction l generalizing m with
 | nil => rfl
 | cons a l ih =>
   simp only [List.map_cons, List.mem_cons, not_or] at h
   rw [List.foldl_cons, ih _ h.2, getA_put, if_neg h.1]
theorem foldl_putA_in {α κ β : Type} [DecidableEq κ] (f : α → κ) (v : α → β) (l : List α) (m : List (κ × β)) (hn : (l.map f).Nodup) {a : α} (h : a ∈ l) : getA (f a) (l.foldl (fun m a => putA (f a) (v a) m) m) = some (v a) := by
 induction l generalizing m with
 | nil => cases h
 | cons b l ih =>
   simp only [List.map_cons, List.nodup_cons] at hn
   rw [List.foldl_cons]
   rcases List.mem_cons.1 h with rfl | h
   ·rw [foldl_putA_out f v l _ hn.1, getA_put, if_pos rfl]
   ·exact ih _ hn.2 h
theorem foldl_putA_nd {α κ β : Type} [DecidableEq κ] (f : α → κ) (v : α → β) (l : List α) (m : List (κ × β)) (hn : (m.map (·.1)).Nodup) : ((l.foldl (fun m a => putA (f a) (v a) m) m).map (·.1)).Nodup := by
 induction l generalizing m with
 | nil => exact hn
 | cons a l ih => rw [List.foldl_cons]; exact ih _ (putA_nodup hn)
theorem foldl_putA_mem {α κ β : Type} [DecidableEq κ] (f : α → κ) (v : α → β) (l : List α) (m : List (κ × β)) {p : κ × β} (h : p ∈ l.foldl (fun m a => putA (f a) (v a) m) m) : p ∈ m ∨ ∃ a ∈ l, p = (f a, v a) := by
 induction l generalizing m with
 | nil => exact .inl h
 | cons a l ih =>
   rw [List.foldl_cons] at h
   rcases ih _ h with h | ⟨b, hb, e⟩
   ·rcases putA_mem h with h | h | h
    ·exact .inr ⟨a, by simp, h⟩
    ·exact .inl h.1
    ·exact .inl h
   ·exact .inr ⟨b, by simp [hb], e⟩
def tsOf (s : Stream) : TS := ⟨s.events, keysOf s.keys⟩
theorem tsOf_ok {s : Stream} (h : wholeB s = true) : (tsOf s).Ok s.name := by
 unfold wholeB streamB at h
 simp only [Bool.and_eq_true, decide_eq_true_eq, List.all_eq_true, goes_iff, keysB_iff] at h
 obtain ⟨⟨h1, h2, h3⟩, h4, h5, h6, h7, _⟩ := h
 refine ⟨h1, h4, h2, fun j e he => by have := h5 j e he; omega, fun p hp => ?_, foldl_putA_nd _ _ _ _ (by simp)⟩
 rcases foldl_putA_mem Known.key (fun k => k) s.keys [] hp with hp | ⟨k, hk, rfl⟩
 ·cases hp
 ·exact ⟨rfl, h3 k hk, h6 k hk⟩
theorem getA_keysOf {l : List Known} (hn : (l.map Known.key).Nodup) {k : Known} (h : k ∈ l) : getA k.key (keysOf l) = some k := foldl_putA_in Known.key (fun k => k) l [] hn h
theorem getA_keysOf_none {l : List Known} {x : Str} (h : x ∉ l.map Known.key) : getA x (keysOf l) = none := foldl_putA_out Known.key (fun k => k) l [] h
def TS.Like (s s' : TS) : Prop := s.events = s'.events ∧ ∀ k, getA k s.keys = getA k s'.keys
def OptLike : Option TS → Option TS → Prop
 | none, none => True
 | some s, some s' => s.Like s'
 | _, _ => False
def Tab.Like (T T' : Tab) : Prop := ∀ n, OptLike (getA n T) (getA n T')
theorem streamOf_like {n : Str} {s : TS} (h : s.Ok n) : (tsOf (streamOf n s)).Like s := by
 refine ⟨rfl, fun k => ?_⟩
 show getA k (keysOf (streamOf n s).keys) = _
 by_cases hk : k ∈ (streamOf n s).keys.map Known.key
 ·obtain ⟨x, hx, rfl⟩ := List.mem_map.1 hk
  rw [getA_keysOf (by rw [keys_fst h]; exact sort_nodup h.nd) hx, getA_of_mem h.nd ((mem_keys h).1 hx)]
 ·rw [getA_keysOf_none hk]
  rw [keys_fst h, mem_sort] at hk
  exact (getA_none.2 hk).symm
theorem TS.Like.version {T T' : Tab} (h : T.Like T') (n : Str) : versionT T n = versionT T' n := by
 have := h n
 unfold versionT
 cases h1 : getA n T <;> cases h2 : getA n T' <;> rw [h1, h2] at this
 ·exact this.elim
 ·exact this.elim
 ·exact congrArg (fun l : List Event => (l.length : Int)) this.1
theorem TS.Like.known {T T' : Tab} (h : T.Like T') (n k : Str) : knownT T n k = knownT T' n k := by
 have := h n
 unfold knownT
 cases h1 : getA n T <;> cases h2 : getA n T' <;> rw [h1, h2] at this
 ·exact this.elim
 ·exact this.elim
 ·simp only [this.2 k]
theorem like_mem {T T' : Tab} (h : T.Like T') (x : Str) : x ∈ T.map (·.1) ↔ x ∈ T'.map (·.1) := by
 have := h x
 cases h1 : getA x T <;> cases h2 : getA x T' <;> rw [h1, h2] at this
 ·rw [getA_none] at h1 h2; simp [h1, h2]
 ·exact this.elim
 ·exact this.elim
 ·exact ⟨fun _ => List.mem_map.2 ⟨_, getA_mem h2, rfl⟩, fun _ => List.mem_map.2 ⟨_, getA_mem h1, rfl⟩⟩
theorem metS_zero {l : List Stream} {n : Str} : metS l n = 0 ↔ ∀ x ∈ l, x.name ≠ n := by
 unfold metS
 rw [List.length_eq_zero_iff, List.filter_eq_nil_iff]
 simp
theorem okPut_iff (l r : List Stream) : okPut l r = true ↔ (∀ s ∈ r, wholeB s = true) ∧ (r.map Stream.name).Nodup ∧ ∀ s ∈ r, ∀ x ∈ l, x.name ≠ s.name := by
 induction r generalizing l with
 | nil => simp [okPut]
 | cons k r ih =>
   unfold okPut
   simp only [Bool.and_eq_true, decide_eq_true_eq, ih, metS_zero, List.mem_cons, List.map_cons, List.nodup_cons, List.mem_append, List.mem_map, not_exists, not_and]
   constructor
   ·rintro ⟨h1, h2, h4, h5, h6⟩
    refine ⟨?_, ⟨?_, h5⟩, ?_⟩
    ·rintro x (rfl | hx)
     ·exact h2
     ·exact h4 x hx
    ·intro x hx e
     exact h6 x hx k (.inr (.inl rfl)) e.symm
    ·rintro x (rfl | hx) y hy
     ·exact h1 y hy
     ·exact h6 x hx y (.inl hy)
   ·rintro ⟨h1, ⟨h2, h3⟩, h4⟩
    refine ⟨h4 k (.inl rfl), h1 k (.inl rfl), fun x hx => h1 x (.inr hx), h3, ?_⟩
    rintro x hx y (hy | rfl | hy)
    ·exact h4 x (.inr hx) y hy
    ·exact fun e => h2 x hx e.symm
    ·cases hy
theorem putAll_out {l : List Stream} {T : Tab} {x : Str} (h : x ∉ l.map Stream.name) : getA x (putAll l T) = getA x T := foldl_putA_out Stream.name (fun s => tsOf s) l T h
theorem putAll_in {l : List Stream} {T : Tab} (hn : (l.map Stream.name).Nodup) {s : Stream} (h : s ∈ l) : getA s.name (putAll l T) = some (tsOf s) := foldl_putA_in Stream.name (fun s => tsOf s) l T hn h
theorem putAll_ok {l : List Stream} {T : Tab} (hT : T.Ok) (h : ∀ s ∈ l, wholeB s = true) : (putAll l T).Ok := by
 refine ⟨foldl_putA_nd Stream.name (fun s => tsOf s) l T hT.nd, fun p hp => ?_⟩
 rcases foldl_putA_mem Stream.name (fun s => tsOf s) l T hp with hp | ⟨s, hs, rfl⟩
 ·exact hT.each p hp
 ·exact tsOf_ok (h s hs)
theorem Tab.Ok.nil_ : Tab.Ok [] := ⟨by simp, fun p hp => by cases hp⟩
theorem mem_take {T : Tab} (hT : T.Ok) {r : Range} {s : Stream} : s ∈ takeT T r ↔ ∃ t, getA s.name T = some t ∧ s = streamOf s.name t ∧ inR r s.name = true := by
 unfold takeT someT
 simp only [List.mem_map, List.mem_filter, mem_sort]
 constructor
 ·rintro ⟨n, ⟨⟨p, hp, rfl⟩, hr⟩, rfl⟩
  have hg := getA_of_mem hT.nd (show (p.1, p.2) ∈ T from hp)
  rw [getD_of hg]
  exact ⟨p.2, hg, rfl, hr⟩
 ·rintro ⟨t, ht, hs, hr⟩
  refine ⟨s.name, ⟨⟨_, getA_mem ht, rfl⟩, hr⟩, ?_⟩
  rw [getD_of ht]; exact hs.symm
theorem take_names (T : Tab) (r : Range) : (takeT T r).map Stream.name = someT T r := by
 unfold takeT
 rw [List.map_map]
 conv => rhs; rw [← List.map_id (someT T r)]
 exact List.map_congr_left fun x _ => rfl
theorem some_nodup {T : Tab} (hT : T.Ok) (r : Range) : (someT T r).Nodup := (sort_nodup hT.nd).sublist List.filter_sublist
theorem take_whole {T : Tab} (hT : T.Ok) (r : Range) : ∀ s ∈ takeT T r, wholeB s = true := by
 intro s hs
 obtain ⟨t, ht, he, _⟩ := (mem_take hT).1 hs
 rw [he]
 exact (hT.each _ (getA_mem ht)).whole
theorem take_okPut {T : Tab} (hT : T.Ok) (r : Range) : okPut [] (takeT T r) = true :=
 (okPut_iff _ _).2 ⟨take_whole hT r, by rw [take_names]; exact some_nodup hT r, fun _ _ x hx => by cases hx⟩
theorem hash_all (h : ∀ n, 0 ≤ hashS n ∧ hashS n < 4294967296) (n : Str) : inR allHashes n = true := by
 unfold inR Range.has allHashes
 have := h n
 simp; omega
theorem fresh_like (hh : ∀ n, 0 ≤ hashS n ∧ hashS n < 4294967296) {T : Tab} (hT : T.Ok) : (freshT T).Like T ∧ (freshT T).Ok := by
 unfold freshT putT
 rw [if_pos (take_okPut hT _)]
 refine ⟨fun n => ?_, putAll_ok Tab.Ok.nil_ (take_whole hT _)⟩
 cases h : getA n T with
 | none =>
   rw [putAll_out]
   ·exact trivial
   ·rw [take_names]
    unfold someT
    rw [List.mem_filter, mem_sort]
    exact fun hx => getA_none.1 h hx.1
 | some s =>
   have hm : streamOf n s ∈ takeT T allHashes := (mem_take hT).2 ⟨s, h, rfl, hash_all hh n⟩
   have := putAll_in (T := []) (by rw [take_names]; exact some_nodup hT _) hm
   rw [show getA n (putAll (takeT T allHashes) []) = _ from this]
   exact streamOf_like (hT.each _ (getA_mem h))
end Go.Proofs.YtcmjgghkmdbphaaGreatDoor
namespace Go.Proofs.YtcmjgghkmdbphaaGreatDoor
open Go.RowKit
theorem hashS_bd (s : Str) : 0 ≤ hashS s ∧ hashS s < 4294967296 := hash_bd s.data.toList
def evT (T : Tab) (n : Str) : List Event := match getA n T with | some s => s.events | none => []
def kyT (T : Tab) (n : Str) : List (Str × Known) := match getA n T with | some s => s.keys | none => []
theorem version_ev (T : Tab) (n : Str) : versionT T n = (evT T n).length := by
 unfold versionT evT; cases getA n T <;> rfl
theorem known_ky (T : Tab) (n k : Str) : knownT T n k = match getA k (kyT T n) with | some x => (x, true) | none => (zeroKnown, false) := by
 unfold knownT kyT; cases getA n T <;> rfl
theorem ts_getD (T : Tab) (n : Str) : (getA n T).getD ⟨[], []⟩ = ⟨evT T n, kyT T n⟩ := by
 unfold evT kyT; cases getA n T <;> rfl
theorem like_ev {T T' : Tab} (h : T.Like T') (n : Str) : evT T n = evT T' n := by
 have := h n
 unfold evT
 cases h1 : getA n T <;> cases h2 : getA n T' <;> rw [h1, h2] at this
 ·exact this.elim
 ·exact this.elim
 ·exact this.1
theorem evT_put (T : Tab) (n x : Str) (s : TS) : evT (putA n s T) x = if x = n then s.events else evT T x := by
 unfold evT; rw [getA_put]; by_cases h : x = n <;> simp [h]
theorem kyT_put (T : Tab) (n x : Str) (s : TS) : kyT (putA n s T) x = if x = n then s.keys else kyT T x := by
 unfold kyT; rw [getA_put]; by_cases h : x = n <;> simp [h]
theorem getA_addKey (k : Str) (e : Event) (m : List (Str × Known)) (x : Str) : getA x (addKey k e m) = if x = k ∧ getA k m = none ∧ k.toList ≠ [] then some ⟨k, e.version, e.stamp⟩ else getA x m := by
 unfold addKey
 by_cases h : (getA k m).isNone = true ∧ k.toList ≠ []
 ·rw [if_pos h, getA_put]
  by_cases hx : x = k
  ·rw [if_pos hx, if_pos ⟨hx, by simpa using h.1, h.2⟩]
  ·rw [if_neg hx, if_neg (fun q => hx q.1)]
 ·rw [if_neg h, if_neg (fun q => h ⟨by simp [q.2.1], q.2.2⟩)]
theorem addKey_nd {k : Str} {e : Event} {m : List (Str × Known)} (h : (m.map (·.1)).Nodup) : ((addKey k e m).map (·.1)).Nodup := by
 unfold addKey; split
 ·exact putA_nodup h
 ·exact h
theorem addKey_mem {k : Str} {e : Event} {m : List (Str × Known)} {p : Str × Known} (h : p ∈ addKey k e m) : p ∈ m ∨ (p = (k, ⟨k, e.version, e.stamp⟩) ∧ k.toList ≠ []) := by
 unfold addKey at h; split at h
 ·rename_i hc
  rcases putA_mem h with h | h | h
  ·exact .inr ⟨h, hc.2⟩
  ·exact .inl h.1
  ·exact .inl h
 ·exact .inl h
theorem getA_ok {T : Tab} (hT : T.Ok) {n : Str} {s : TS} (h : getA n T = some s) : s.Ok n := hT.each _ (getA_mem h)
theorem Tab.Ok.put {T : Tab} (hT : T.Ok) {n : Str} {s : TS} (h : s.Ok n) : Tab.Ok (putA n s T) := by
 refine ⟨putA_nodup hT.nd, fun p hp => ?_⟩
 rcases putA_mem hp with rfl | h' | h'
 ·exact h
 ·exact hT.each _ h'.1
 ·exact hT.each _ h'
theorem ev_ok {T : Tab} (hT : T.Ok) (n : Str) : (∀ e ∈ evT T n, okE n e = true) ∧ (∀ (j : Nat) (e : Event), (evT T n)[j]? = some e → e.version = j + 1) ∧ (∀ p ∈ kyT T n, p.2.key = p.1 ∧ knownB p.2 = true ∧ keyFit (evT T n) p.2) ∧ ((kyT T n).map (·.1)).Nodup := by
 unfold evT kyT
 cases h : getA n T with
 | none => simp
 | some s => have := getA_ok hT h; exact ⟨this.evs, this.goes, this.keys, this.nd⟩
theorem keyFit_app {ev l : List Event} {k : Known} (h : keyFit ev k) (h1 : 1 ≤ k.first) : keyFit (ev ++ l) k := by
 obtain ⟨h2, h3⟩ := h
 refine ⟨by rw [List.length_append]; omega, ?_⟩
 rw [← h3, List.map_append]
 have : (k.first - 1).toNat < (ev.map Event.stamp).length := by rw [List.length_map]; omega
 simp only [List.getD_eq_getElem?_getD]
 rw [List.getElem?_append_left this]
theorem append_spec {T : Tab} (hT : T.Ok) {k : Str} {e : Event} {l : List Event} (hk : keyB k = true) (ha : ∀ x ∈ e :: l, x.stream = e.stream ∧ x.stamp = e.stamp ∧ eventB x = true)
 (hg : ∀ (j : Nat) (x : Event), (e :: l)[j]? = some x → x.version = versionT T e.stream + 1 + j) :
 (appendT k (e :: l) T).2 = 0 ∧ (appendT k (e :: l) T).1.Ok ∧ (∀ n, evT (appendT k (e :: l) T).1 n = if n = e.stream then evT T n ++ (e :: l) else evT T n) ∧
 ∀ n, kyT (appendT k (e :: l) T).1 n = if n = e.stream then addKey k e (kyT T n) else kyT T n := by
 have h1 : alikeB (e :: l) = true := by
  unfold alikeB
  simp only [List.all_eq_true, Bool.and_eq_true, decide_eq_true_eq]
  exact ha
 have h2 : goesB (e :: l) (versionT T e.stream) = true := (goes_iff _ _).2 hg
 have he : appendT k (e :: l) T = (putA e.stream ⟨evT T e.stream ++ (e :: l), addKey k e (kyT T e.stream)⟩ T, 0) := by
  unfold appendT
  simp only [h1, hk, h2, ts_getD]
  simp
 rw [he]
 have hev := ev_ok hT e.stream
 have hb := eventB_iff.1 (ha e (by simp)).2.2
 have hve : e.version = versionT T e.stream + 1 := by have := hg 0 e rfl; simpa using this
 refine ⟨rfl, hT.put ⟨hb.1, by simp, ?_, ?_, ?_, addKey_nd hev.2.2.2⟩, fun n => ?_, fun n => ?_⟩
 ·intro x hx
  rcases List.mem_append.1 hx with hx | hx
  ·exact hev.1 x hx
  ·have := ha x hx
   unfold okE
   rw [this.2.2, this.1]; simp
 ·intro j x hx
  rw [List.getElem?_append] at hx
  split at hx
  ·exact hev.2.1 j x hx
  ·rename_i hj
   have := hg _ x hx
   rw [version_ev] at this
   omega
 ·intro p hp
  rcases addKey_mem hp with hp | ⟨rfl, hne⟩
  ·have := hev.2.2.1 p hp
   exact ⟨this.1, this.2.1, keyFit_app this.2.2 (knownB_iff.1 this.2.1).2.2.1⟩
  ·refine ⟨rfl, knownB_iff.2 ⟨by simpa using hne, hk, hb.2.1, hb.2.2.1, hb.2.2.2.2.2.1⟩, ?_, ?_⟩
   ·rw [version_ev] at hve; simp only [List.length_append, List.length_cons]; omega
   ·rw [version_ev] at hve
    have : (e.version - 1).toNat = (evT T e.stream).length := by omega
    simp only [this, List.getD_eq_getElem?_getD, List.getElem?_map]
    rw [List.getElem?_append_right (Nat.le_refl _)]
    simp
 ·rw [evT_put]
  by_cases h : n = e.stream <;> simp [h]
 ·rw [kyT_put]
  by_cases h : n = e.stream <;> simp [h]
structure PutOk (p : Put) : Prop where
 few : p.data.length ≤ 20
 data : ∀ s ∈ p.data, s.size ≤ 1000 ∧ validB s = true
 name : nameB p.stream = true
 full : p.data ≠ []
theorem Batch.Good.putOk {b : Batch} (h : b.Good) : ∀ p ∈ b.puts, PutOk p := fun p hp => by
 obtain ⟨⟨h1, h2⟩, h3, h4, h5, _⟩ := h.puts p hp
 exact ⟨h1, fun s hs => ⟨h2 s hs, by rw [h5] at hs; exact (List.mem_filter.1 hs).2⟩, h3, h4⟩
theorem metOf_zero {l : List Put} {n : Str} : metOf l n = 0 ↔ ∀ x ∈ l, x.stream ≠ n := by
 unfold metOf
 rw [List.length_eq_zero_iff, List.filter_eq_nil_iff]
 simp
theorem putsB_dist (l r : List Put) (h : putsB l r = true) : (r.map Put.stream).Nodup ∧ ∀ p ∈ r, ∀ x ∈ l, x.stream ≠ p.stream := by
 induction r generalizing l with
 | nil => simp
 | cons p r ih =>
   unfold putsB at h
   simp only [Bool.and_eq_true] at h
   obtain ⟨i1, i2⟩ := ih _ h.2
   have hm := metOf_zero.1 (putB_iff.1 h.1).2.1
   simp only [List.map_cons, List.nodup_cons, List.mem_map, not_exists, not_and]
   refine ⟨⟨fun x hx e => i2 x hx p (by simp) e.symm, i1⟩, fun q hq x hx => ?_⟩
   rcases List.mem_cons.1 hq with rfl | hq
   ·exact hm x hx
   ·exact i2 q hq x (by simp [hx])
theorem checkB_dist {b : Batch} (h : checkB b = 0) : (b.puts.map Put.stream).Nodup := by
 unfold checkB at h
 by_cases hm : mayB b = true
 ·unfold mayB at hm
  simp only [Bool.and_eq_true] at hm
  exact (putsB_dist _ _ hm.1).1
 ·rw [if_neg hm] at h; cases h
theorem makeP_at (p : Put) (a b : Int) (st : Stamp) (ix : Int) (d : List Str) (k n j : Nat) : (makeP p a b st ix d k n)[j]? = d[j]?.map fun x => ⟨p.stream, a + b * ((k + j : Nat) : Int), x, st, ix + ((n + j : Nat) : Int)⟩ := by
 induction d generalizing k n j with
 | nil => simp [makeP]
 | cons x d ih =>
   cases j with
   | zero => simp [makeP]
   | succ j =>
     simp only [makeP, List.getElem?_cons_succ, ih]
     rw [show k + 1 + j = k + (j + 1) by omega, show n + 1 + j = n + (j + 1) by omega]
theorem makeP_mem {p : Put} {a b : Int} {st : Stamp} {ix : Int} {d : List Str} {k n : Nat} {e : Event} (h : e ∈ makeP p a b st ix d k n) : ∃ j x, j < d.length ∧ d[j]? = some x ∧ e = ⟨p.stream, a + b * ((k + j : Nat) : Int), x, st, ix + ((n + j : Nat) : Int)⟩ := by
 obtain ⟨j, hj⟩ := List.getElem?_of_mem h
 rw [makeP_at] at hj
 obtain ⟨x, hx, rfl⟩ := Option.map_eq_some_iff.1 hj
 exact ⟨j, x, (List.getElem?_eq_some_iff.1 hx).1, hx, rfl⟩
theorem makeP_stream {p : Put} {a b : Int} {st : Stamp} {ix : Int} {d : List Str} {k n : Nat} {e : Event} (h : e ∈ makeP p a b st ix d k n) : e.stream = p.stream ∧ e.stamp = st := by
 obtain ⟨j, x, _, _, rfl⟩ := makeP_mem h; exact ⟨rfl, rfl⟩
theorem makeF_stream (l : List Put) (f : List Int) (st : Stamp) (ix : Int) (n : Nat) {e : Event} (h : e ∈ makeF l f st ix n) : (∃ p ∈ l, p.stream = e.stream) ∧ e.stamp = st := by
 induction l generalizing f n with
 | nil => cases h
 | cons p r ih =>
   unfold makeF at h
   rcases List.mem_append.1 h with h | h
   ·exact ⟨⟨p, by simp, (makeP_stream h).1.symm⟩, (makeP_stream h).2⟩
   ·obtain ⟨⟨q, hq, e1⟩, e2⟩ := ih _ _ h
    exact ⟨⟨q, by simp [hq], e1⟩, e2⟩
def firstsT (T : Tab) (l : List Put) : List Int := l.map fun p => versionT T p.stream + 1
def knowsT (T : Tab) (k : Str) (st : Stamp) (hit : Bool) (n x : Str) : Known × Bool := if x = k ∧ k.toList ≠ [] ∧ hit = true ∧ (knownT T n k).2 = false then (⟨k, versionT T n + 1, st⟩, true) else knownT T n x
theorem putP_spec {k : Str} {st : Stamp} (hk : keyB k = true) (hst : soundB st = true) : ∀ (l : List Put) (ix : Nat) (T : Tab), T.Ok → (l.map Put.stream).Nodup → (∀ p ∈ l, PutOk p) → (∀ n, versionT T n + 20 * l.length ≤ 1099511627000) → ix + sumD l ≤ 160 →
 (putP k l (makeF l (firstsT T l) st 0 ix) T).Ok ∧ (∀ n, evT (putP k l (makeF l (firstsT T l) st 0 ix) T) n = evT T n ++ (makeF l (firstsT T l) st 0 ix).filter fun e => decide (e.stream = n)) ∧
 ∀ n x, knownT (putP k l (makeF l (firstsT T l) st 0 ix) T) n x = knowsT T k st (l.any fun p => decide (p.stream = n)) n x
 | [], ix, T, hT, _, _, _, _ => by
   refine ⟨hT, fun n => by simp [putP, makeF], fun n x => ?_⟩
   unfold knowsT
   rw [if_neg (by simp)]; rfl
 | p :: r, ix, T, hT, hd, hp, hv, hs => by
   have hpo := hp p (by simp)
   simp only [List.map_cons, List.nodup_cons] at hd
   have hsd : sumD (p :: r) = p.data.length + sumD r := by simp [sumD]
   have hEq : makeF (p :: r) (firstsT T (p :: r)) st 0 ix = makeP p (versionT T p.stream + 1) 1 st 0 p.data 0 ix ++ makeF r (firstsT T r) st 0 (ix + p.data.length) := by
    rw [makeF]; rfl
   have hlen := makeP_len p (versionT T p.stream + 1) 1 st 0 p.data 0 ix
   have hM := @makeP_at p (versionT T p.stream + 1) 1 st 0 p.data 0 ix
   have hMm := fun e => @makeP_mem p (versionT T p.stream + 1) 1 st 0 p.data 0 ix e
   generalize hm : makeP p (versionT T p.stream + 1) 1 st 0 p.data 0 ix = m at hEq hlen hM hMm
   have hput : putP k (p :: r) (makeF (p :: r) (firstsT T (p :: r)) st 0 ix) T = putP k r (makeF r (firstsT T r) st 0 (ix + p.data.length)) (appendT k m T).1 := by
    rw [hEq]
    show putP k r ((m ++ _).drop p.data.length) (appendT k ((m ++ _).take p.data.length) T).1 = _
    rw [← hlen, List.drop_left, List.take_left]
   have hne : p.data.length ≠ 0 := fun e => hpo.full (List.length_eq_zero_iff.1 e)
   cases m with
   | nil => exact absurd hlen.symm (by simpa using hne)
   | cons e m =>
     have hst1 : ∀ x ∈ e :: m, x.stream = p.stream ∧ x.stamp = st ∧ eventB x = true := fun x hx => by
      obtain ⟨j, d, hj, hd2, rfl⟩ := hMm x hx
      have h1 := hv p.stream
      have h2 := (version_ev T p.stream)
      refine ⟨rfl, rfl, eventB_iff.2 ⟨hpo.name, ?_, ?_, (hpo.data d (List.mem_of_getElem? hd2)).1, (hpo.data d (List.mem_of_getElem? hd2)).2, hst, ?_, ?_⟩⟩ <;> (have := hpo.few; simp only []; omega)
     have he := hst1 e (by simp)
     obtain ⟨a1, a2, a3, a4⟩ := append_spec (k := k) (e := e) (l := m) hT hk (fun x hx => ⟨(hst1 x hx).1.trans he.1.symm, (hst1 x hx).2.1.trans he.2.1.symm, (hst1 x hx).2.2⟩) (fun j x hx => by
      rw [hM] at hx
      obtain ⟨d, _, rfl⟩ := Option.map_eq_some_iff.1 hx
      rw [he.1]; simp only []; omega)
     have hev1 : e.version = versionT T p.stream + 1 := by
      have := hM 0
      simp only [List.getElem?_cons_zero] at this
      obtain ⟨d, _, h⟩ := Option.map_eq_some_iff.1 this.symm
      rw [← h]; simp
     rw [he.1] at a3 a4
     have hvr : firstsT (appendT k (e :: m) T).1 r = firstsT T r := by
      unfold firstsT
      refine List.map_congr_left fun q hq => ?_
      rw [version_ev, version_ev, a3, if_neg]
      exact fun h => hd.1 (List.mem_map.2 ⟨q, hq, h⟩)
     have hkn : ∀ n x, knownT (appendT k (e :: m) T).1 n x = knowsT T k st (decide (p.stream = n)) n x := fun n x => by
      unfold knowsT
      simp only [known_ky]
      rw [a4]
      by_cases hn : n = p.stream
      ·subst hn
       simp only [if_true, decide_true, true_and]
       rw [getA_addKey]
       cases h1 : getA k (kyT T p.stream) with
       | none =>
         by_cases hx : x = k ∧ k.toList ≠ []
         ·rw [if_pos ⟨hx.1, rfl, hx.2⟩, if_pos ⟨hx.1, hx.2, rfl⟩, hev1, he.2.1]
         ·rw [if_neg (fun q => hx ⟨q.1, q.2.2⟩), if_neg (fun q => hx ⟨q.1, q.2.1⟩)]
       | some y =>
         rw [if_neg (fun q => by cases q.2.1), if_neg (fun q => by cases q.2.2)]
      ·rw [if_neg hn, if_neg (fun q => hn (of_decide_eq_true q.2.2.1).symm)]
     have hv1 : ∀ n, versionT (appendT k (e :: m) T).1 n + 20 * r.length ≤ 1099511627000 := fun n => by
      have h1 := hv n
      have h2 := hpo.few
      rw [version_ev] at h1 ⊢
      rw [List.length_cons] at h1
      rw [a3]; split
      ·rw [List.length_append]; omega
      ·omega
     obtain ⟨b1, b2, b3⟩ := putP_spec hk hst r (ix + p.data.length) (appendT k (e :: m) T).1 a2 hd.2 (fun q hq => hp q (by simp [hq])) hv1 (by omega)
     rw [hvr] at b1 b2 b3
     rw [hput]
     refine ⟨b1, fun n => ?_, fun n x => ?_⟩
     ·rw [b2, a3, hEq, List.filter_append]
      by_cases hn : n = p.stream
      ·rw [if_pos hn, show (e :: m).filter (fun e => decide (e.stream = n)) = e :: m from List.filter_eq_self.2 (fun x hx => by rw [(hst1 x hx).1, hn]; simp), List.append_assoc]
      ·rw [if_neg hn, show (e :: m).filter (fun e => decide (e.stream = n)) = [] from List.filter_eq_nil_iff.2 (fun x hx => by rw [(hst1 x hx).1]; simpa using fun h => hn h.symm), List.nil_append]
     ·rw [b3]
      simp only [List.any_cons]
      unfold knowsT
      simp only [hkn]
      unfold knowsT
      by_cases hn : p.stream = n
      ·have hno : (r.any fun q => decide (q.stream = n)) = false := by
        rw [List.any_eq_false]
        intro q hq
        simp only [decide_eq_true_eq]
        exact fun h => hd.1 (List.mem_map.2 ⟨q, hq, h.trans hn.symm⟩)
       simp [hn, hno]
      ·have hv2 : versionT (appendT k (e :: m) T).1 n = versionT T n := by rw [version_ev, version_ev, a3, if_neg (fun h => hn h.symm)]
       simp [hn, hv2]
end Go.Proofs.YtcmjgghkmdbphaaGreatDoor
namespace Go.Proofs.YtcmjgghkmdbphaaGreatDoor
open Go.RowKit
theorem idxI_spec {α : Type} (p : α → Bool) (l : List α) : (idxI p l = -1 ∧ ∀ a ∈ l, p a = false) ∨ ∃ a x b, l = a ++ x :: b ∧ (∀ y ∈ a, p y = false) ∧ p x = true ∧ idxI p l = a.length := by
 unfold idxI
 cases h : l.findIdx? p with
 | none => exact .inl ⟨rfl, by rw [List.findIdx?_eq_none_iff] at h; exact h⟩
 | some i =>
   right
   rw [List.findIdx?_eq_some_iff_getElem] at h
   obtain ⟨hi, hp, hb⟩ := h
   refine ⟨l.take i, l[i], l.drop (i + 1), ?_, ?_, hp, ?_⟩
   ·rw [← List.drop_eq_getElem_cons hi, List.take_append_drop]
   ·intro y hy
    obtain ⟨j, hj, rfl⟩ := List.getElem_of_mem hy
    rw [List.length_take] at hj
    rw [List.getElem_take]
    have := hb j (by omega)
    simpa using this
   ·rw [List.length_take]; simp only [Int.natCast_inj]; omega
theorem has_iff {r : Range} {h : Int} : r.has h = true ↔ r.first ≤ h ∧ h ≤ r.last := by
 simp only [Range.has, Bool.and_eq_true, decide_eq_true_eq]
theorem ownedB_iff {r : Range} : ownedB r = true ↔ 1 ≤ r.owner ∧ r.owner ≤ 5 ∧ 1 ≤ r.epoch ∧ r.epoch ≤ 1099511627776 := by
 simp only [ownedB, Bool.and_eq_true, decide_eq_true_eq]
theorem soundF_cons {r : Range} {l : List Range} {n m : Int} : soundFrom (r :: l) n = some m ↔ (r.first = n ∧ n ≤ r.last ∧ r.last ≤ 4294967295 ∧ ownedB r = true) ∧ soundFrom l (r.last + 1) = some m := by
 simp only [soundFrom]
 by_cases h : r.first = n ∧ n ≤ r.last ∧ r.last ≤ 4294967295 ∧ ownedB r = true
 ·rw [if_pos h]; simp [h]
 ·rw [if_neg h]
  constructor
  ·intro q; cases q
  ·intro q; exact (h q.1).elim
theorem soundFrom_app {a b : List Range} {n m : Int} : soundFrom (a ++ b) n = some m ↔ ∃ k, soundFrom a n = some k ∧ soundFrom b k = some m := by
 induction a generalizing n with
 | nil => simp [soundFrom]
 | cons r a ih =>
   rw [List.cons_append, soundF_cons, ih]
   constructor
   ·rintro ⟨h, k, h1, h2⟩; exact ⟨k, soundF_cons.2 ⟨h, h1⟩, h2⟩
   ·rintro ⟨k, h1, h2⟩; rw [soundF_cons] at h1; exact ⟨h1.1, k, h1.2, h2⟩
theorem soundFrom_le {l : List Range} {n m : Int} (h : soundFrom l n = some m) : n ≤ m := by
 induction l generalizing n with
 | nil => simp [soundFrom] at h; omega
 | cons r l ih => rw [soundF_cons] at h; have := ih h.2; omega
theorem soundFrom_mem {l : List Range} {n m : Int} (h : soundFrom l n = some m) {x : Range} (hx : x ∈ l) : n ≤ x.first ∧ x.first ≤ x.last ∧ x.last < m ∧ x.last ≤ 4294967295 ∧ ownedB x = true := by
 induction l generalizing n with
 | nil => cases hx
 | cons r l ih =>
   rw [soundF_cons] at h
   rcases List.mem_cons.1 hx with rfl | hx
   ·have := soundFrom_le h.2; exact ⟨by omega, by omega, by omega, by omega, h.1.2.2.2⟩
   ·have := ih h.2 hx; exact ⟨by omega, by omega, by omega, by omega, this.2.2.2.2⟩
theorem soundFrom_cover {l : List Range} {n m : Int} (h : soundFrom l n = some m) {k : Int} (h1 : n ≤ k) (h2 : k < m) : ∃ x ∈ l, x.has k = true := by
 induction l generalizing n with
 | nil => simp [soundFrom] at h; omega
 | cons r l ih =>
   rw [soundF_cons] at h
   by_cases hk : k ≤ r.last
   ·exact ⟨r, by simp, has_iff.2 ⟨by omega, hk⟩⟩
   ·obtain ⟨x, hx, h3⟩ := ih h.2 (by omega)
    exact ⟨x, by simp [hx], h3⟩
theorem soundFrom_uniq {l : List Range} {n m : Int} (h : soundFrom l n = some m) {x y : Range} (hx : x ∈ l) (hy : y ∈ l) {k : Int} (h1 : x.has k = true) (h2 : y.has k = true) : x = y := by
 rw [has_iff] at h1 h2
 induction l generalizing n with
 | nil => cases hx
 | cons r l ih =>
   rw [soundF_cons] at h
   rcases List.mem_cons.1 hx with ex | hx' <;> rcases List.mem_cons.1 hy with ey | hy'
   ·rw [ex, ey]
   ·have := soundFrom_mem h.2 hy'; subst ex; omega
   ·have := soundFrom_mem h.2 hx'; subst ey; omega
   ·exact ih h.2 hx' hy'
theorem sound_iff {l : List Range} : soundR l = true ↔ soundFrom l 0 = some 4294967296 ∧ l.length ≤ 64 := by
 simp only [soundR, Bool.and_eq_true, decide_eq_true_eq]
theorem at_spec {l : List Range} (hs : soundR l = true) {h : Int} (h0 : 0 ≤ h) (h1 : h < 4294967296) : ∃ a x b, l = a ++ x :: b ∧ x.has h = true ∧ atR l h = a.length ∧ findR l h = (x, true) := by
 obtain ⟨x, hx, hh⟩ := soundFrom_cover (sound_iff.1 hs).1 h0 h1
 have ha : atR l h = idxI (fun r => r.has h) l := by unfold atR; rw [if_pos hs]
 rcases idxI_spec (fun r : Range => r.has h) l with ⟨_, hn⟩ | ⟨a, y, b, hl, _, hy, hi⟩
 ·rw [hn x hx] at hh; cases hh
 ·refine ⟨a, y, b, hl, hy, by rw [ha, hi], ?_⟩
  unfold findR
  rw [ha, hi, if_neg (by omega), hl]
  simp
theorem find_eq {l : List Range} (hs : soundR l = true) {h : Int} (h0 : 0 ≤ h) (h1 : h < 4294967296) {x : Range} (hx : x ∈ l) (hh : x.has h = true) : findR l h = (x, true) := by
 obtain ⟨a, y, b, hl, hy, _, hf⟩ := at_spec hs h0 h1
 rw [hf, soundFrom_uniq (sound_iff.1 hs).1 hx (by rw [hl]; simp) hh hy]
theorem find_mem {l : List Range} {h : Int} (hf : (findR l h).2 = true) : (findR l h).1 ∈ l ∧ (findR l h).1.has h = true ∧ soundR l = true := by
 unfold findR at hf ⊢
 split at hf
 ·cases hf
 ·rename_i hn
  rw [if_neg hn]
  unfold atR at hn ⊢
  split at hn
  ·rename_i hs
   rw [if_pos hs]
   rcases idxI_spec (fun r : Range => r.has h) l with ⟨hi, _⟩ | ⟨a, y, b, hl, _, hy, hi⟩
   ·omega
   ·rw [hi]
    have hg : l.getD ((a.length : Int)).toNat zeroRange = y := by rw [hl]; simp
    simp only [hg]
    exact ⟨by rw [hl]; simp, hy, hs⟩
  ·omega
theorem at_nonneg {l : List Range} {h : Int} (hn : ¬ atR l h < 0) : ∃ a x b, l = a ++ x :: b ∧ x.has h = true ∧ atR l h = a.length ∧ soundR l = true := by
 unfold atR at hn ⊢
 split at hn
 ·rename_i hs
  rw [if_pos hs]
  rcases idxI_spec (fun r : Range => r.has h) l with ⟨hi, _⟩ | ⟨a, y, b, hl, _, hy, hi⟩
  ·omega
  ·exact ⟨a, y, b, hl, hy, hi, hs⟩
 ·omega
theorem split_spec {l : List Range} {h : Int} (hz : (splitR l h).2 = 0) : ∃ a x b, l = a ++ x :: b ∧ x.has h = true ∧ x.first ≠ h ∧ (splitR l h).1 = a ++ [{ x with last := h - 1, epoch := x.epoch + 1 }, { x with first := h, epoch := x.epoch + 1 }] ++ b ∧ soundR (splitR l h).1 = true ∧ soundR l = true := by
 by_cases hc : atR l h < 0 ∨ (l.getD (atR l h).toNat zeroRange).first = h ∨ (l.getD (atR l h).toNat zeroRange).epoch = 1099511627776
 ·unfold splitR at hz; simp only [if_pos hc] at hz; cases hz
 ·by_cases hc2 : 64 ≤ l.length
  ·unfold splitR at hz; simp only [if_neg hc, if_pos hc2] at hz; cases hz
  ·have he : splitR l h = (l.take (atR l h).toNat ++ ([{ l.getD (atR l h).toNat zeroRange with last := h - 1, epoch := (l.getD (atR l h).toNat zeroRange).epoch + 1 }, { l.getD (atR l h).toNat zeroRange with first := h, epoch := (l.getD (atR l h).toNat zeroRange).epoch + 1 }] ++ l.drop ((atR l h).toNat + 1)), 0) := by
    unfold splitR; simp only [if_neg hc, if_neg hc2]
   simp only [not_or] at hc
   obtain ⟨a, x, b, hl, hx, hi, hs⟩ := at_nonneg hc.1
   rw [he]
   rw [hi] at hc ⊢
   have hg : l.getD ((a.length : Int)).toNat zeroRange = x := by rw [hl]; simp
   rw [hg] at hc ⊢
   have ht : l.take (a.length : Int).toNat = a := by rw [hl]; simp
   have hd : l.drop ((a.length : Int).toNat + 1) = b := by rw [hl]; simp
   rw [ht, hd]
   have hS := sound_iff.1 hs
   refine ⟨a, x, b, hl, hx, hc.2.1, by simp, ?_, hs⟩
   rw [sound_iff]
   obtain ⟨h1, h2⟩ := hS
   rw [hl] at h1 hc2
   rw [soundFrom_app] at h1
   obtain ⟨k, h3, h4⟩ := h1
   rw [soundF_cons] at h4
   rw [has_iff] at hx
   have ho := ownedB_iff.1 h4.1.2.2.2
   refine ⟨soundFrom_app.2 ⟨k, h3, ?_⟩, by simp at hc2 ⊢; omega⟩
   show soundFrom (_ :: _ :: b) k = _
   rw [soundF_cons, soundF_cons]
   refine ⟨⟨h4.1.1, ?_, ?_, ownedB_iff.2 ⟨ho.1, ho.2.1, ?_, ?_⟩⟩, ⟨?_, ?_, h4.1.2.2.1, ownedB_iff.2 ⟨ho.1, ho.2.1, ?_, ?_⟩⟩, h4.2⟩ <;> simp only [] <;> omega
theorem set_spec {l : List Range} {r : Range} (hz : (setR l r).2 = 0) : ∃ a x b, l = a ++ x :: b ∧ x.first = r.first ∧ x.last = r.last ∧ (setR l r).1 = a ++ r :: b ∧ soundR (setR l r).1 = true ∧ soundR l = true ∧ ownedB r = true := by
 unfold setR at hz ⊢
 by_cases hs : soundR l = false
 ·simp only [hs] at hz; simp at hz
 ·simp only [if_neg hs] at hz ⊢
  by_cases hc : atR l r.first < 0 ∨ (l.getD (atR l r.first).toNat zeroRange).first ≠ r.first ∨ (l.getD (atR l r.first).toNat zeroRange).last ≠ r.last
  ·simp only [if_pos hc] at hz; cases hz
  ·simp only [if_neg hc] at hz ⊢
   by_cases ho : ownedB r = false
   ·simp only [if_pos ho] at hz; cases hz
   ·simp only [if_neg ho] at hz ⊢
    simp only [not_or, Decidable.not_not] at hc
    obtain ⟨a, x, b, hl, hx, hi, hs'⟩ := at_nonneg hc.1
    rw [hi] at hc ⊢
    have hg : l.getD ((a.length : Int)).toNat zeroRange = x := by rw [hl]; simp
    rw [hg] at hc
    have hset : l.set (a.length : Int).toNat r = a ++ r :: b := by rw [hl]; simp
    rw [hset]
    refine ⟨a, x, b, hl, hc.2.1, hc.2.2, rfl, ?_, hs', by simpa using ho⟩
    obtain ⟨h1, h2⟩ := sound_iff.1 hs'
    rw [hl] at h1 h2
    rw [soundFrom_app] at h1
    obtain ⟨k, h3, h4⟩ := h1
    rw [soundF_cons] at h4
    rw [sound_iff]
    refine ⟨soundFrom_app.2 ⟨k, h3, soundF_cons.2 ⟨⟨by omega, by omega, by omega, by simpa using ho⟩, ?_⟩⟩, by simpa using h2⟩
    rw [← hc.2.2]; exact h4.2
def posR (r : Range) (n : Int) : Int := if r.first < n then max n (r.last + 1) else n
theorem around_sound {r : Range} (hr : r.first ≤ r.last) (hm : r.last ≤ 4294967295) (ho : ownedB r = true) : ∀ (l : List Range) (n m : Int), soundFrom l n = some m → soundFrom (aroundR l r) (posR r n) = some (posR r m)
 | [], n, m, h => by simp [soundFrom] at h; subst h; rfl
 | x :: l, n, m, h => by
   rw [soundF_cons] at h
   obtain ⟨⟨h1, h2, h3, h4⟩, h5⟩ := h
   have ih := around_sound hr hm ho l _ _ h5
   have hxo : ∀ a b, ownedB { x with first := a, last := b } = true := fun a b => h4
   show soundFrom (aroundX r x ++ aroundR l r) _ = _
   rw [soundFrom_app]
   refine ⟨posR r (x.last + 1), ?_, ih⟩
   unfold aroundX posR
   dsimp only
   by_cases c1 : r.first < n
   ·rw [if_pos c1, if_neg (show ¬ x.first ≤ min x.last (r.first - 1) by omega), if_neg (show ¬ (x.first ≤ r.first ∧ r.first ≤ x.last) by omega), if_pos (show r.first < x.last + 1 by omega)]
    simp only [List.nil_append]
    by_cases c2 : max x.first (r.last + 1) ≤ x.last
    ·rw [if_pos c2, soundF_cons]
     exact ⟨⟨by show max x.first _ = _; omega, by show _ ≤ x.last; omega, h3, h4⟩, by simp only [soundFrom, Option.some.injEq]; omega⟩
    ·rw [if_neg c2]; simp only [soundFrom, Option.some.injEq]; omega
   ·rw [if_neg c1]
    by_cases c2 : r.first ≤ x.last
    ·rw [if_pos (by omega : r.first < x.last + 1), if_pos (⟨by omega, c2⟩ : x.first ≤ r.first ∧ r.first ≤ x.last)]
     have hmid : ∀ q, soundFrom q (r.last + 1) = some (max (x.last + 1) (r.last + 1)) → soundFrom ([r] ++ q) r.first = some (max (x.last + 1) (r.last + 1)) := fun q hq => by
      show soundFrom (r :: q) _ = _
      rw [soundF_cons]; exact ⟨⟨rfl, hr, hm, ho⟩, hq⟩
     have hhigh : soundFrom (if max x.first (r.last + 1) ≤ x.last then [{ x with first := max x.first (r.last + 1) }] else []) (r.last + 1) = some (max (x.last + 1) (r.last + 1)) := by
      by_cases c3 : max x.first (r.last + 1) ≤ x.last
      ·rw [if_pos c3, soundF_cons]
       exact ⟨⟨by show max x.first _ = _; omega, by show _ ≤ x.last; omega, h3, h4⟩, by simp only [soundFrom, Option.some.injEq]; omega⟩
      ·rw [if_neg c3]; simp only [soundFrom, Option.some.injEq]; omega
     by_cases c3 : x.first ≤ min x.last (r.first - 1)
     ·rw [if_pos c3]
      show soundFrom (_ :: ([r] ++ _)) n = _
      rw [soundF_cons]
      refine ⟨⟨h1, by show n ≤ min x.last _; omega, by show min x.last _ ≤ _; omega, h4⟩, ?_⟩
      rw [show (min x.last (r.first - 1)) + 1 = r.first by omega]
      exact hmid _ hhigh
     ·rw [if_neg c3, List.nil_append, show n = r.first by omega]
      exact hmid _ hhigh
    ·rw [if_neg (by omega : ¬ r.first < x.last + 1), if_pos (by omega : x.first ≤ min x.last (r.first - 1)), if_neg (fun q : x.first ≤ r.first ∧ r.first ≤ x.last => c2 q.2), if_neg (show ¬ max x.first (r.last + 1) ≤ x.last by omega)]
     show soundFrom (_ :: []) n = _
     rw [soundF_cons]
     exact ⟨⟨h1, by show n ≤ min x.last _; omega, by show min x.last _ ≤ _; omega, h4⟩, by simp only [soundFrom, Option.some.injEq]; show min x.last _ + 1 = _; omega⟩
theorem around_ok {l : List Range} {r : Range} (hs : soundR l = true) (h0 : 0 ≤ r.first) (hr : r.first ≤ r.last) (hm : r.last ≤ 4294967295) (ho : ownedB r = true) (hl : (aroundR l r).length ≤ 64) : soundR (aroundR l r) = true := by
 rw [sound_iff]
 have := around_sound hr hm ho l _ _ (sound_iff.1 hs).1
 rw [show posR r 0 = 0 by unfold posR; rw [if_neg (by omega)], show posR r 4294967296 = 4294967296 by unfold posR; rw [if_pos (by omega)]; omega] at this
 exact ⟨this, hl⟩
theorem around_out {l : List Range} {r x : Range} {h : Int} (hx : x ∈ l) (hh : x.has h = true) (hr : r.has h = false) : ∃ y ∈ aroundR l r, y.has h = true ∧ y.owner = x.owner ∧ y.epoch = x.epoch := by
 have hn : ¬ (r.first ≤ h ∧ h ≤ r.last) := fun q => by rw [has_iff.2 q] at hr; cases hr
 rw [has_iff] at hh
 have hin : ∀ y, y ∈ aroundX r x → y ∈ aroundR l r := fun y hy => List.mem_flatMap.2 ⟨x, hx, hy⟩
 by_cases c : h < r.first
 ·refine ⟨{ x with last := min x.last (r.first - 1) }, hin _ ?_, has_iff.2 ⟨hh.1, by show h ≤ min _ _; omega⟩, rfl, rfl⟩
  unfold aroundX
  simp only [List.mem_append]
  left
  rw [if_pos (by omega)]
  simp
 ·refine ⟨{ x with first := max x.first (r.last + 1) }, hin _ ?_, has_iff.2 ⟨by show max _ _ ≤ h; omega, hh.2⟩, rfl, rfl⟩
  unfold aroundX
  simp only [List.mem_append]
  right; right
  rw [if_pos (by omega)]
  simp
end Go.Proofs.YtcmjgghkmdbphaaGreatDoor
namespace Go.Proofs.YtcmjgghkmdbphaaGreatDoor
open Go.RowKit
theorem checkR_iff {r : Rec} : checkR r = 0 ↔ namedK r.kind = true ∧ spareB r (fieldsF r.kind) = true ∧ headBad r (fieldsF r.kind) = false ∧ listsBad r (fieldsF r.kind) = false := by
 unfold checkR recB
 cases namedK r.kind <;> cases spareB r (fieldsF r.kind) <;> cases headBad r (fieldsF r.kind) <;> cases listsBad r (fieldsF r.kind) <;> simp
theorem checkR_kind {r : Rec} (h : checkR r = 0) : 1 ≤ r.kind ∧ r.kind ≤ 11 := by
 have := (checkR_iff.1 h).1
 simpa [namedK] using this
theorem checkR_batch {r : Rec} (h : checkR r = 0) (hk : r.kind = 3 ∨ r.kind = 4) : checkB r.batch = 0 ∧ soundB r.stamp = true := by
 have := (checkR_iff.1 h).2.2.1
 rcases hk with hk | hk <;> (rw [hk] at this; simp [headBad, fieldsF] at this)
 ·exact this
 ·exact this.2
theorem checkR_stamp {r : Rec} (h : checkR r = 0) (hk : r.kind = 5 ∨ r.kind = 6) : soundB r.stamp = true := by
 have := (checkR_iff.1 h).2.2.1
 rcases hk with hk | hk <;> (rw [hk] at this; simp [headBad, fieldsF] at this) <;> exact this.2
theorem checkR_span {r : Rec} (h : checkR r = 0) (hk : r.kind = 9 ∨ r.kind = 10 ∨ r.kind = 11) : 0 ≤ r.range.first ∧ 0 ≤ r.range.last ∧ 0 ≤ r.range.owner ∧ 0 ≤ r.range.epoch := by
 have := (checkR_iff.1 h).2.2.1
 rcases hk with hk | hk | hk <;> (rw [hk] at this; simp [headBad, fieldsF, inW] at this) <;> omega
def lifeS (s : St) (r : Rec) : St × Int := if r.n ≤ s.life then (s, 1) else ({ s with life := r.n }, 0)
def ceilS (s : St) (r : Rec) : St × Int := if r.n ≤ s.ceiling then (s, 1) else ({ s with ceiling := r.n }, 0)
def doS (s : St) (r : Rec) : St × Int :=
 if r.kind = 1 then lifeS s r else if r.kind = 2 then ceilS s r else if r.kind = 3 then commitS s r else if r.kind = 4 then prepareS s r else if r.kind = 5 then decideS s r
 else if r.kind = 6 then outcomeS s r else if r.kind = 7 then forgetS s r else if r.kind = 8 then splitS s r else if r.kind = 9 then freezeS s r else if r.kind = 10 then installS s r else releaseS s r
def applyS (s : St) (r : Rec) : St × Int := if checkR r ≠ 0 then (s, checkR r) else doS s r
def heldD (l : List (Tx × Held)) : Nat := (l.map fun p => sumD p.2.batch.puts).sum
def costR (r : Rec) : Nat := sumD r.batch.puts + (r.streams.map fun s => s.events.length + s.keys.length + 1).sum
structure HeldOk (s : St) (h : Held) : Prop where
 check : checkB h.batch = 0
 firsts : h.firsts = firstsT s.table h.batch.puts
 serves : ∀ p ∈ h.batch.puts, servesS s p.stream = true
 warm : ∀ p ∈ h.batch.puts, ∀ f ∈ s.frozen, f.range.has (hashS p.stream) = false
def Apart (p q : Tx × Held) : Prop := ∀ a ∈ p.2.batch.puts, ∀ b ∈ q.2.batch.puts, a.stream ≠ b.stream
structure Inv (s : St) (N : Nat) : Prop where
 self : 1 ≤ s.self ∧ s.self ≤ s.nodes ∧ s.nodes ≤ 5
 ring : soundR s.ring = true
 tab : s.table.Ok
 size : s.table.length + heldD s.held ≤ N
 evs : ∀ n, (evT s.table n).length + heldD s.held ≤ N
 kys : ∀ n, (kyT s.table n).length + heldD s.held ≤ N
 log : s.log.length + heldD s.held ≤ N
 held : ∀ p ∈ s.held, HeldOk s p.2
 apart : s.held.Pairwise Apart
 nd : (s.held.map (·.1)).Nodup
 frozen : ∀ f ∈ s.frozen, f.range ∈ s.ring ∧ f.range.owner = s.self ∧ f.to ≠ s.self
 fnd : (s.frozen.map Rec.range).Nodup
theorem Inv.mono {s : St} {N M : Nat} (h : Inv s N) (hm : N ≤ M) : Inv s M :=
 { h with size := Nat.le_trans h.size hm, evs := fun n => Nat.le_trans (h.evs n) hm, kys := fun n => Nat.le_trans (h.kys n) hm, log := Nat.le_trans h.log hm }
theorem serves_iff {s : St} (hs : soundR s.ring = true) (n : Str) : servesS s n = true ↔ ∃ x ∈ s.ring, x.has (hashS n) = true ∧ x.owner = s.self := by
 have hb := hashS_bd n
 obtain ⟨a, x, b, hl, hx, _, hf⟩ := at_spec hs hb.1 hb.2
 unfold servesS ofR
 rw [hf]
 simp only [Bool.true_and, decide_eq_true_eq]
 constructor
 ·intro h; exact ⟨x, by rw [hl]; simp, hx, h⟩
 ·rintro ⟨y, hy, h1, h2⟩
  rw [← h2, soundFrom_uniq (sound_iff.1 hs).1 (show x ∈ s.ring by rw [hl]; simp) hy hx h1]
theorem mayP_zero {s : St} {l : List Put} (h : mayP s l = 0) : ∀ p ∈ l, servesS s p.stream = true ∧ busyS s p.stream = false := by
 induction l with
 | nil => simp
 | cons p l ih =>
   unfold mayP at h
   split at h
   ·omega
   ·rename_i h1
    split at h
    ·omega
    ·rename_i h2
     intro q hq
     rcases List.mem_cons.1 hq with rfl | hq
     ·exact ⟨by simpa using h1, by simpa using h2⟩
     ·exact ih h q hq
theorem mayV_zero {T : Tab} {l : List Put} {f : List Int} (h : (mayV T l f).2.2 = 0) : (mayV T l f).1 = f ++ firstsT T l ∧ ∀ p ∈ l, p.expect = -1 ∨ p.expect = versionT T p.stream := by
 induction l generalizing f with
 | nil => simp [mayV, firstsT]
 | cons p l ih =>
   unfold mayV at h ⊢
   split at h
   ·cases h
   ·rename_i hc
    rw [if_neg hc]
    obtain ⟨h1, h2⟩ := ih h
    refine ⟨by rw [h1]; simp [firstsT], fun q hq => ?_⟩
    rcases List.mem_cons.1 hq with rfl | hq
    ·by_cases c : q.expect = -1
     ·exact .inl c
     ·exact .inr (Decidable.byContradiction fun c2 => hc ⟨c, c2⟩)
    ·exact h2 q hq
theorem mayS_zero {s : St} {b : Batch} (h : (mayS s b).2.2 = 0) : checkB b = 0 ∧ (∀ p ∈ b.puts, servesS s p.stream = true ∧ busyS s p.stream = false) ∧ (knownS s b).2.2 = 0 ∧ (mayS s b).1 = firstsT s.table b.puts ∧ ∀ p ∈ b.puts, p.expect = -1 ∨ p.expect = versionT s.table p.stream := by
 unfold mayS at h ⊢
 split at h
 ·rename_i h1; exact absurd h h1
 ·rename_i h1
  rw [if_neg h1]
  split at h
  ·rename_i h2; exact absurd h h2
  ·rename_i h2
   rw [if_neg h2]
   split at h
   ·rename_i h3; exact absurd h h3
   ·rename_i h3
    rw [if_neg h3]
    obtain ⟨h4, h5⟩ := mayV_zero h
    exact ⟨by omega, mayP_zero (by omega), by omega, by simpa using h4, h5⟩
theorem putA_len {κ β : Type} [DecidableEq κ] (k : κ) (v : β) (l : List (κ × β)) : (putA k v l).length ≤ l.length + 1 := by
 induction l with
 | nil => simp [putA]
 | cons p l ih => obtain ⟨x, u⟩ := p; unfold putA; split <;> simp; omega
theorem appendT_len (k : Str) (l : List Event) (T : Tab) : (appendT k l T).1.length ≤ T.length + 1 ∧ ∀ n, (kyT (appendT k l T).1 n).length ≤ (kyT T n).length + 1 := by
 unfold appendT
 cases l with
 | nil => exact ⟨by simp, fun n => by simp⟩
 | cons e l =>
   dsimp only
   split
   ·exact ⟨by simp, fun n => by simp⟩
   ·split
    ·exact ⟨by simp, fun n => by simp⟩
    ·refine ⟨putA_len _ _ _, fun n => ?_⟩
     rw [kyT_put]
     split
     ·rename_i hn; subst hn
      rw [ts_getD]
      unfold addKey
      split
      ·exact putA_len _ _ _
      ·simp
     ·omega
theorem putP_len (k : Str) : ∀ (l : List Put) (E : List Event) (T : Tab), (putP k l E T).length ≤ T.length + l.length ∧ ∀ n, (kyT (putP k l E T) n).length ≤ (kyT T n).length + l.length
 | [], E, T => ⟨by simp [putP], fun n => by simp [putP]⟩
 | p :: l, E, T => by
   obtain ⟨h1, h2⟩ := appendT_len k (E.take p.data.length) T
   obtain ⟨h3, h4⟩ := putP_len k l (E.drop p.data.length) (appendT k (E.take p.data.length) T).1
   unfold putP
   refine ⟨by rw [List.length_cons]; omega, fun n => ?_⟩
   have := h2 n; have := h4 n
   rw [List.length_cons]; omega
theorem fresh_len {T : Tab} (hT : T.Ok) : (freshT T).length = T.length ∧ ∀ n, (kyT (freshT T) n).length = (kyT T n).length := by
 obtain ⟨hL, hO⟩ := fresh_like hashS_bd hT
 refine ⟨?_, fun n => ?_⟩
 ·have := (perm_of_mem hO.nd hT.nd (like_mem hL)).length_eq
  simpa using this
 ·have hn := hL n
  have h1 := ev_ok hO n
  have h2 := ev_ok hT n
  have : ((kyT (freshT T) n).map (·.1)).Perm ((kyT T n).map (·.1)) := by
   refine perm_of_mem h1.2.2.2 h2.2.2.2 fun x => ?_
   have e : getA x (kyT (freshT T) n) = getA x (kyT T n) := by
    unfold kyT
    cases h3 : getA n (freshT T) <;> cases h4 : getA n T <;> rw [h3, h4] at hn
    ·exact hn.elim
    ·exact hn.elim
    ·exact hn.2 x
   cases h : getA x (kyT T n) with
   | none =>
     rw [h] at e
     exact ⟨fun q => absurd q (getA_none.1 e), fun q => absurd q (getA_none.1 h)⟩
   | some y =>
     rw [h] at e
     exact ⟨fun _ => List.mem_map.2 ⟨_, getA_mem h, rfl⟩, fun _ => List.mem_map.2 ⟨_, getA_mem e, rfl⟩⟩
  simpa using this.length_eq
theorem puts_le_sum {l : List Put} (h : ∀ p ∈ l, PutOk p) : l.length ≤ sumD l := by
 induction l with
 | nil => simp
 | cons p l ih =>
   have h1 := ih fun q hq => h q (by simp [hq])
   have h2 : p.data.length ≠ 0 := fun e => (h p (by simp)).full (List.length_eq_zero_iff.1 e)
   simp only [sumD, List.map_cons, List.sum_cons, List.length_cons] at *
   omega
theorem sumD_le {l : List Put} (h : ∀ p ∈ l, PutOk p) : sumD l ≤ 20 * l.length := by
 induction l with
 | nil => simp [sumD]
 | cons p l ih =>
   have h1 := ih fun q hq => h q (by simp [hq])
   have h2 := (h p (by simp)).few
   simp only [sumD, List.map_cons, List.sum_cons, List.length_cons] at *
   omega
structure PutS (s : St) (b : Batch) (st : Stamp) (s' : St) : Prop where
 rest : s' = { s with table := s'.table, log := s'.log }
 ok : s'.table.Ok
 log : s'.log = s.log ++ makeB b (firstsT s.table b.puts) st 0
 evs : ∀ n, evT s'.table n = evT s.table n ++ (makeB b (firstsT s.table b.puts) st 0).filter fun e => decide (e.stream = n)
 knows : ∀ n x, knownT s'.table n x = knowsT s.table b.key st (b.puts.any fun p => decide (p.stream = n)) n x
 size : s'.table.length ≤ s.table.length + b.puts.length
 kys : ∀ n, (kyT s'.table n).length ≤ (kyT s.table n).length + b.puts.length
theorem firsts_like {T T' : Tab} (h : T.Like T') (l : List Put) : firstsT T l = firstsT T' l := List.map_congr_left fun p _ => by rw [TS.Like.version h]
theorem putS_spec {s : St} {b : Batch} {st : Stamp} (hT : s.table.Ok) (hc : checkB b = 0) (hst : soundB st = true) (hv : ∀ n, (evT s.table n).length ≤ 1000000) : PutS s b st (putS s b (firstsT s.table b.puts) st) := by
 obtain ⟨hL, hO⟩ := fresh_like hashS_bd hT
 have hg := checkB_good hc
 have hp := hg.putOk
 have h1 := sumD_le hp
 have h2 := hg.few
 have e := firsts_like hL b.puts
 obtain ⟨a1, a2, a3⟩ := putP_spec (k := b.key) (st := st) hg.key hst b.puts 0 (freshT s.table) hO (checkB_dist hc) hp (fun n => by
  have := hv n
  rw [version_ev, like_ev hL]; omega) (by omega)
 rw [e] at a1 a2 a3
 obtain ⟨l1, l2⟩ := putP_len b.key b.puts (makeB b (firstsT s.table b.puts) st 0) (freshT s.table)
 obtain ⟨f1, f2⟩ := fresh_len hT
 refine ⟨rfl, a1, rfl, fun n => ?_, fun n x => ?_, by show (putP _ _ _ _).length ≤ _; omega, fun n => by have := l2 n; have := f2 n; show (kyT (putP _ _ _ _) n).length ≤ _; omega⟩
 ·show evT (putP _ _ _ _) n = _
  rw [show makeB b (firstsT s.table b.puts) st 0 = makeF b.puts (firstsT s.table b.puts) st 0 0 from rfl, a2, like_ev hL]
 ·show knownT (putP _ _ _ _) n x = _
  rw [show makeB b (firstsT s.table b.puts) st 0 = makeF b.puts (firstsT s.table b.puts) st 0 0 from rfl, a3]
  unfold knowsT
  rw [TS.Like.known hL, TS.Like.known hL, TS.Like.version hL]
end Go.Proofs.YtcmjgghkmdbphaaGreatDoor
namespace Go.Proofs.YtcmjgghkmdbphaaGreatDoor
open Go.RowKit
theorem decide_out (g : Nat) (s : St) (r : Rec) (nA pA sA : Option Addr) (nc pc sc : Nat) (P Q : Nat → Prop) (w : World) (h : StAt w P g s) (hg : ¬ P g) (hF : Fit s)
 (hr : RecAt w Q r nA nc pA pc sA sc) (hQ : ¬ Q g) (_hl : r.batch.puts.length ≤ 1000000) (_hd : ∀ p ∈ r.batch.puts, p.data.length ≤ 1000000) (hT : Tabs w) (h2 : 2 ≤ g) :
 Calls Tryz.prog 91 #[ptrV g, .agg (r.cells nA nc pA pc sA sc).toArray] w (StOut w P g (decideS s r)) :=
 decide_any g s r nA pA sA nc pc sc P Q w h hg hF hr hQ hT h2
end Go.Proofs.YtcmjgghkmdbphaaGreatDoor
namespace Go.Proofs.YtcmjgghkmdbphaaGreatDoor
open Go.RowKit
theorem i64_small (n : Int) (h : -1000 ≤ n ∧ n ≤ 1000) : i64 n := ⟨by omega, by omega⟩
end Go.Proofs.YtcmjgghkmdbphaaGreatDoor
