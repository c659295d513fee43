/- tables that answer alike; a table made anew (plain law). what putting a batch in does (plain law). the ring: split, set, laid around (plain law). records that may be; the invariant of a state (plain l -/
import Derived.Test.YtpgocpodhamibaaGreatDoorNK05
import Derived.Test.YtpgocpodhamibaaGreatDoorNK04
import Derived.Test.YtpgocpodhamibaaGreatDoorNK03
import Derived.Test.YtpgocpodhamibaaGreatDoorNK09
import Derived.Test.YtpgocpodhamibaaGreatDoorNK02
import Derived.Test.YtpgocpodhamibaaGreatDoorNK10
import Derived.Test.YtpgocpodhamibaaGreatDoorNK06
import Derived.Shelf.SlMaps.Clone
namespace Go.Proofs.YtpgocpodhamibaaGreatDoor
open Go.RowKit
theorem sort_perm (l : List Str) : (sortS l).Perm l := List.mergeSort_perm _ _
theorem mem_sort {l : List Str} {x : Str} : x ∈ sortS l ↔ x ∈ l := (sort_perm l).mem_iff
theorem sort_nodup {l : List Str} (h : l.Nodup) : (sortS l).Nodup := (sort_perm l).nodup_iff.2 h
theorem perm_of_mem {α : Type} [DecidableEq α] {l m : List α} (hl : l.Nodup) (hm : m.Nodup) (h : ∀ x, x ∈ l ↔ x ∈ m) : l.Perm m := by
 rw [List.perm_iff_count]
 intro a
 rw [hl.count, hm.count]
 simp only [h a]
theorem goesFrom_iff (l : List Event) (v i : Int) : goesFrom l v i = true ↔ ∀ (j : Nat) (e : Event), l[j]? = some e → e.version = v + 1 + (i + j) := by
 induction l generalizing i with
 | nil => simp [goesFrom]
 | cons e l ih =>
   unfold goesFrom
   rw [Bool.and_eq_true, decide_eq_true_eq, ih]
   constructor
   ·rintro ⟨h1, h2⟩ j x hx
    cases j with
    | zero => simp at hx; subst hx; omega
    | succ j => have := h2 j x (by simpa using hx); omega
   ·intro h
    refine ⟨by have := h 0 e rfl; simpa using this, fun j x hx => ?_⟩
    have := h (j + 1) x (by simpa using hx)
    omega
theorem goes_iff (l : List Event) (v : Int) : goesB l v = true ↔ ∀ (j : Nat) (e : Event), l[j]? = some e → e.version = v + 1 + j := by
 unfold goesB; rw [goesFrom_iff]
 constructor <;> intro h j e he <;> have := h j e he <;> omega
def keyFit (ev : List Event) (k : Known) : Prop := k.first ≤ ev.length ∧ (ev.map Event.stamp).getD (k.first - 1).toNat zeroStamp = k.stamp
theorem metK_zero {l : List Known} {k : Str} : metK l k = 0 ↔ ∀ x ∈ l, x.key ≠ k := by
 unfold metK
 rw [List.length_eq_zero_iff, List.filter_eq_nil_iff]
 simp
theorem keysB_iff (ev : List Event) (l r : List Known) : keysB ev l r = true ↔ (∀ k ∈ r, keyFit ev k) ∧ (r.map Known.key).Nodup ∧ ∀ k ∈ r, ∀ x ∈ l, x.key ≠ k.key := by
 induction r generalizing l with
 | nil => simp [keysB]
 | cons k r ih =>
   unfold keysB
   simp only [Bool.and_eq_true, decide_eq_true_eq, ih, metK_zero, List.mem_cons, List.map_cons, List.nodup_cons, List.mem_append, List.mem_map, not_exists, not_and]
   constructor
   ·rintro ⟨h1, h2, h3, h4, h5, h6⟩
    refine ⟨?_, ⟨?_, h5⟩, ?_⟩
    ·rintro x (rfl | hx)
     ·exact ⟨h2, h3⟩
     ·exact h4 x hx
    ·intro x hx e
     exact h6 x hx k (.inr (.inl rfl)) e.symm
    ·rintro x (rfl | hx) y hy
     ·exact h1 y hy
     ·exact h6 x hx y (.inl hy)
   ·rintro ⟨h1, ⟨h2, h3⟩, h4⟩
    refine ⟨h4 k (.inl rfl), (h1 k (.inl rfl)).1, (h1 k (.inl rfl)).2, fun x hx => h1 x (.inr hx), h3, ?_⟩
    rintro x hx y (hy | rfl | hy)
    ·exact h4 x (.inr hx) y hy
    ·exact fun e => h2 x hx e.symm
    ·cases hy
structure TS.Ok (n : Str) (s : TS) : Prop where
 name : nameB n = true
 full : s.events ≠ []
 evs : ∀ e ∈ s.events, okE n e = true
 goes : ∀ (j : Nat) (e : Event), s.events[j]? = some e → e.version = j + 1
 keys : ∀ p ∈ s.keys, p.2.key = p.1 ∧ knownB p.2 = true ∧ keyFit s.events p.2
 nd : (s.keys.map (·.1)).Nodup
structure Tab.Ok (T : Tab) : Prop where
 nd : (T.map (·.1)).Nodup
 each : ∀ p ∈ T, p.2.Ok p.1
theorem getD_of {α : Type} {o : Option α} {a d : α} (h : o = some a) : o.getD d = a := by rw [h]; rfl
theorem mem_keys {s : TS} {n : Str} (h : s.Ok n) {k : Known} : k ∈ (streamOf n s).keys ↔ (k.key, k) ∈ s.keys := by
 unfold streamOf
 simp only [List.mem_map, mem_sort]
 constructor
 ·rintro ⟨x, ⟨p, hp, rfl⟩, rfl⟩
  rw [getD_of (getA_of_mem h.nd (show (p.1, p.2) ∈ s.keys from hp))]
  rw [(h.keys p hp).1]; exact hp
 ·intro hk
  exact ⟨k.key, ⟨_, hk, rfl⟩, getD_of (getA_of_mem h.nd hk)⟩
theorem keys_fst {s : TS} {n : Str} (h : s.Ok n) : (streamOf n s).keys.map Known.key = sortS (s.keys.map (·.1)) := by
 unfold streamOf
 simp only [List.map_map]
 conv => rhs; rw [← List.map_id (sortS (s.keys.map (·.1)))]
 apply List.map_congr_left
 intro x hx
 rw [mem_sort] at hx
 obtain ⟨p, hp, rfl⟩ := List.mem_map.1 hx
 simp only [Function.comp, id]
 rw [getD_of (getA_of_mem h.nd (show (p.1, p.2) ∈ s.keys from hp))]
 exact (h.keys p hp).1
theorem TS.Ok.whole {s : TS} {n : Str} (h : s.Ok n) : wholeB (streamOf n s) = true := by
 unfold wholeB streamB
 simp only [Bool.and_eq_true, decide_eq_true_eq, List.all_eq_true]
 refine ⟨⟨h.name, h.evs, fun k hk => (h.keys _ ((mem_keys h).1 hk)).2.1⟩, h.full, ?_, ?_⟩
 ·rw [goes_iff]; intro j e he; have := h.goes j e he; omega
 ·rw [keysB_iff]
  refine ⟨fun k hk => (h.keys _ ((mem_keys h).1 hk)).2.2, ?_, fun _ _ x hx => by cases hx⟩
  rw [keys_fst h]; exact sort_nodup h.nd
theorem foldl_putA_out {α κ β : Type} [DecidableEq κ] (f : α → κ) (v : α → β) (l : List α) (m : List (κ × β)) {x : κ} (h : x ∉ l.map f) : getA x (l.foldl (fun m a => putA (f a) (v a) m) m) = getA x m := by
 induction l generalizing m with
 | nil => rfl
 | cons a l ih =>
   simp only [List.map_cons, List.mem_cons, not_or] at h
   rw [List.foldl_cons, ih _ h.2, getA_put, if_neg h.1]
theorem foldl_putA_in {α κ β : Type} [DecidableEq κ] (f : α → κ) (v : α → β) (l : List α) (m : List (κ × β)) (hn : (l.map f).Nodup) {a : α} (h : a ∈ l) : getA (f a) (l.foldl (fun m a => putA (f a) (v a) m) m) = some (v a) := by
 induction l generalizing m with
 | nil => cases h
 | cons b l ih =>
   simp only [List.map_cons, List.nodup_cons] at hn
   rw [List.foldl_cons]
   rcases List.mem_cons.1 h with rfl | h
   ·rw [foldl_putA_out f v l _ hn.1, getA_put, if_pos rfl]
   ·exact ih _ hn.2 h
theorem foldl_putA_nd {α κ β : Type} [DecidableEq κ] (f : α → κ) (v : α → β) (l : List α) (m : List (κ × β)) (hn : (m.map (·.1)).Nodup) : ((l.foldl (fun m a => putA (f a) (v a) m) m).map (·.1)).Nodup := by
 induction l generalizing m with
 | nil => exact hn
 | cons a l ih => rw [List.foldl_cons]; exact ih _ (putA_nodup hn)
theorem foldl_putA_mem {α κ β : Type} [DecidableEq κ] (f : α → κ) (v : α → β) (l : List α) (m : List (κ × β)) {p : κ × β} (h : p ∈ l.foldl (fun m a => putA (f a) (v a) m) m) : p ∈ m ∨ ∃ a ∈ l, p = (f a, v a) := by
 induction l generalizing m with
 | nil => exact .inl h
 | cons a l ih =>
   rw [List.foldl_cons] at h
   rcases ih _ h with h | ⟨b, hb, e⟩
   ·rcases putA_mem h with h | h | h
    ·exact .inr ⟨a, by simp, h⟩
    ·exact .inl h.1
    ·exact .inl h
   ·exact .inr ⟨b, by simp [hb], e⟩
def tsOf (s : Stream) : TS := ⟨s.events, keysOf s.keys⟩
theorem tsOf_ok {s : Stream} (h : wholeB s = true) : (tsOf s).Ok s.name := by
 unfold wholeB streamB at h
 simp only [Bool.and_eq_true, decide_eq_true_eq, List.all_eq_true, goes_iff, keysB_iff] at h
 obtain ⟨⟨h1, h2, h3⟩, h4, h5, h6, h7, _⟩ := h
 refine ⟨h1, h4, h2, fun j e he => by have := h5 j e he; omega, fun p hp => ?_, foldl_putA_nd _ _ _ _ (by simp)⟩
 rcases foldl_putA_mem Known.key (fun k => k) s.keys [] hp with hp | ⟨k, hk, rfl⟩
 ·cases hp
 ·exact ⟨rfl, h3 k hk, h6 k hk⟩
theorem getA_keysOf {l : List Known} (hn : (l.map Known.key).Nodup) {k : Known} (h : k ∈ l) : getA k.key (keysOf l) = some k := foldl_putA_in Known.key (fun k => k) l [] hn h
theorem getA_keysOf_none {l : List Known} {x : Str} (h : x ∉ l.map Known.key) : getA x (keysOf l) = none := foldl_putA_out Known.key (fun k => k) l [] h
def TS.Like (s s' : TS) : Prop := s.events = s'.events ∧ ∀ k, getA k s.keys = getA k s'.keys
def OptLike : Option TS → Option TS → Prop
 | none, none => True
 | some s, some s' => s.Like s'
 | _, _ => False
def Tab.Like (T T' : Tab) : Prop := ∀ n, OptLike (getA n T) (getA n T')
theorem streamOf_like {n : Str} {s : TS} (h : s.Ok n) : (tsOf (streamOf n s)).Like s := by
 refine ⟨rfl, fun k => ?_⟩
 show getA k (keysOf (streamOf n s).keys) = _
 by_cases hk : k ∈ (streamOf n s).keys.map Known.key
 ·obtain ⟨x, hx, rfl⟩ := List.mem_map.1 hk
  rw [getA_keysOf (by rw [keys_fst h]; exact sort_nodup h.nd) hx, getA_of_mem h.nd ((mem_keys h).1 hx)]
 ·rw [getA_keysOf_none hk]
  rw [keys_fst h, mem_sort] at hk
  exact (getA_none.2 hk).symm
theorem TS.Like.version {T T' : Tab} (h : T.Like T') (n : Str) : versionT T n = versionT T' n := by
 have := h n
 unfold versionT
 cases h1 : getA n T <;> cases h2 : getA n T' <;> rw [h1, h2] at this
 ·exact this.elim
 ·exact this.elim
 ·exact congrArg (fun l : List Event => (l.length : Int)) this.1
theorem TS.Like.known {T T' : Tab} (h : T.Like T') (n k : Str) : knownT T n k = knownT T' n k := by
 have := h n
 unfold knownT
 cases h1 : getA n T <;> cases h2 : getA n T' <;> rw [h1, h2] at this
 ·exact this.elim
 ·exact this.elim
 ·simp only [this.2 k]
theorem like_mem {T T' : Tab} (h : T.Like T') (x : Str) : x ∈ T.map (·.1) ↔ x ∈ T'.map (·.1) := by
 have := h x
 cases h1 : getA x T <;> cases h2 : getA x T' <;> rw [h1, h2] at this
 ·rw [getA_none] at h1 h2; simp [h1, h2]
 ·exact this.elim
 ·exact this.elim
 ·exact ⟨fun _ => List.mem_map.2 ⟨_, getA_mem h2, rfl⟩, fun _ => List.mem_map.2 ⟨_, getA_mem h1, rfl⟩⟩
theorem metS_zero {l : List Stream} {n : Str} : metS l n = 0 ↔ ∀ x ∈ l, x.name ≠ n := by
 unfold metS
 rw [List.length_eq_zero_iff, List.filter_eq_nil_iff]
 simp
theorem okPut_iff (l r : List Stream) : okPut l r = true ↔ (∀ s ∈ r, wholeB s = true) ∧ (r.map Stream.name).Nodup ∧ ∀ s ∈ r, ∀ x ∈ l, x.name ≠ s.name := by
 induction r generalizing l with
 | nil => simp [okPut]
 | cons k r ih =>
   unfold okPut
   simp only [Bool.and_eq_true, decide_eq_true_eq, ih, metS_zero, List.mem_cons, List.map_cons, List.nodup_cons, List.mem_append, List.mem_map, not_exists, not_and]
   constructor
   ·rintro ⟨h1, h2, h4, h5, h6⟩
    refine ⟨?_, ⟨?_, h5⟩, ?_⟩
    ·rintro x (rfl | hx)
     ·exact h2
     ·exact h4 x hx
    ·intro x hx e
     exact h6 x hx k (.inr (.inl rfl)) e.symm
    ·rintro x (rfl | hx) y hy
     ·exact h1 y hy
     ·exact h6 x hx y (.inl hy)
   ·rintro ⟨h1, ⟨h2, h3⟩, h4⟩
    refine ⟨h4 k (.inl rfl), h1 k (.inl rfl), fun x hx => h1 x (.inr hx), h3, ?_⟩
    rintro x hx y (hy | rfl | hy)
    ·exact h4 x (.inr hx) y hy
    ·exact fun e => h2 x hx e.symm
    ·cases hy
theorem putAll_out {l : List Stream} {T : Tab} {x : Str} (h : x ∉ l.map Stream.name) : getA x (putAll l T) = getA x T := foldl_putA_out Stream.name (fun s => tsOf s) l T h
theorem putAll_in {l : List Stream} {T : Tab} (hn : (l.map Stream.name).Nodup) {s : Stream} (h : s ∈ l) : getA s.name (putAll l T) = some (tsOf s) := foldl_putA_in Stream.name (fun s => tsOf s) l T hn h
theorem putAll_ok {l : List Stream} {T : Tab} (hT : T.Ok) (h : ∀ s ∈ l, wholeB s = true) : (putAll l T).Ok := by
 refine ⟨foldl_putA_nd Stream.name (fun s => tsOf s) l T hT.nd, fun p hp => ?_⟩
 rcases foldl_putA_mem Stream.name (fun s => tsOf s) l T hp with hp | ⟨s, hs, rfl⟩
 ·exact hT.each p hp
 ·exact tsOf_ok (h s hs)
theorem Tab.Ok.nil_ : Tab.Ok [] := ⟨by simp, fun p hp => by cases hp⟩
theorem mem_take {T : Tab} (hT : T.Ok) {r : Range} {s : Stream} : s ∈ takeT T r ↔ ∃ t, getA s.name T = some t ∧ s = streamOf s.name t ∧ inR r s.name = true := by
 unfold takeT someT
 simp only [List.mem_map, List.mem_filter, mem_sort]
 constructor
 ·rintro ⟨n, ⟨⟨p, hp, rfl⟩, hr⟩, rfl⟩
  have hg := getA_of_mem hT.nd (show (p.1, p.2) ∈ T from hp)
  rw [getD_of hg]
  exact ⟨p.2, hg, rfl, hr⟩
 ·rintro ⟨t, ht, hs, hr⟩
  refine ⟨s.name, ⟨⟨_, getA_mem ht, rfl⟩, hr⟩, ?_⟩
  rw [getD_of ht]; exact hs.symm
theorem take_names (T : Tab) (r : Range) : (takeT T r).map Stream.name = someT T r := by
 unfold takeT
 rw [List.map_map]
 conv => rhs; rw [← List.map_id (someT T r)]
 exact List.map_congr_left fun x _ => rfl
theorem some_nodup {T : Tab} (hT : T.Ok) (r : Range) : (someT T r).Nodup := (sort_nodup hT.nd).sublist List.filter_sublist
theorem take_whole {T : Tab} (hT : T.Ok) (r : Range) : ∀ s ∈ takeT T r, wholeB s = true := by
 intro s hs
 obtain ⟨t, ht, he, _⟩ := (mem_take hT).1 hs
 rw [he]
 exact (hT.each _ (getA_mem ht)).whole
theorem take_okPut {T : Tab} (hT : T.Ok) (r : Range) : okPut [] (takeT T r) = true :=
 (okPut_iff _ _).2 ⟨take_whole hT r, by rw [take_names]; exact some_nodup hT r, fun _ _ x hx => by cases hx⟩
theorem hash_all (h : ∀ n, 0 ≤ hashS n ∧ hashS n < 4294967296) (n : Str) : inR allHashes n = true := by
 unfold inR Range.has allHashes
 have := h n
 simp; omega
theorem fresh_like (hh : ∀ n, 0 ≤ hashS n ∧ hashS n < 4294967296) {T : Tab} (hT : T.Ok) : (freshT T).Like T ∧ (freshT T).Ok := by
 unfold freshT putT
 rw [if_pos (take_okPut hT _)]
 refine ⟨fun n => ?_, putAll_ok Tab.Ok.nil_ (take_whole hT _)⟩
 cases h : getA n T with
 | none =>
   rw [putAll_out]
   ·exact trivial
   ·rw [take_names]
    unfold someT
    rw [List.mem_filter, mem_sort]
    exact fun hx => getA_none.1 h hx.1
 | some s =>
   have hm : streamOf n s ∈ takeT T allHashes := (mem_take hT).2 ⟨s, h, rfl, hash_all hh n⟩
   have := putAll_in (T := []) (by rw [take_names]; exact some_nodup hT _) hm
   rw [show getA n (putAll (takeT T allHashes) []) = _ from this]
   exact streamOf_like (hT.each _ (getA_mem h))
open Go.RowKit
theorem hashS_bd (s : Str) : 0 ≤ hashS s ∧ hashS s < 4294967296 := hash_bd s.data.toList
def evT (T : Tab) (n : Str) : List Event := match getA n T with | some s => s.events | none => []
def kyT (T : Tab) (n : Str) : List (Str × Known) := match getA n T with | some s => s.keys | none => []
theorem version_ev (T : Tab) (n : Str) : versionT T n = (evT T n).length := by
 unfold versionT evT; cases getA n T <;> rfl
theorem known_ky (T : Tab) (n k : Str) : knownT T n k = match getA k (kyT T n) with | some x => (x, true) | none => (zeroKnown, false) := by
 unfold knownT kyT; cases getA n T <;> rfl
theorem ts_getD (T : Tab) (n : Str) : (getA n T).getD ⟨[], []⟩ = ⟨evT T n, kyT T n⟩ := by
 unfold evT kyT; cases getA n T <;> rfl
theorem like_ev {T T' : Tab} (h : T.Like T') (n : Str) : evT T n = evT T' n := by
 have := h n
 unfold evT
 cases h1 : getA n T <;> cases h2 : getA n T' <;> rw [h1, h2] at this
 ·exact this.elim
 ·exact this.elim
 ·exact this.1
theorem evT_put (T : Tab) (n x : Str) (s : TS) : evT (putA n s T) x = if x = n then s.events else evT T x := by
 unfold evT; rw [getA_put]; by_cases h : x = n <;> simp [h]
theorem kyT_put (T : Tab) (n x : Str) (s : TS) : kyT (putA n s T) x = if x = n then s.keys else kyT T x := by
 unfold kyT; rw [getA_put]; by_cases h : x = n <;> simp [h]
theorem getA_addKey (k : Str) (e : Event) (m : List (Str × Known)) (x : Str) : getA x (addKey k e m) = if x = k ∧ getA k m = none ∧ k.toList ≠ [] then some ⟨k, e.version, e.stamp⟩ else getA x m := by
 unfold addKey
 by_cases h : (getA k m).isNone = true ∧ k.toList ≠ []
 ·rw [if_pos h, getA_put]
  by_cases hx : x = k
  ·rw [if_pos hx, if_pos ⟨hx, by simpa using h.1, h.2⟩]
  ·rw [if_neg hx, if_neg (fun q => hx q.1)]
 ·rw [if_neg h, if_neg (fun q => h ⟨by simp [q.2.1], q.2.2⟩)]
theorem addKey_nd {k : Str} {e : Event} {m : List (Str × Known)} (h : (m.map (·.1)).Nodup) : ((addKey k e m).map (·.1)).Nodup := by
 unfold addKey; split
 ·exact putA_nodup h
 ·exact h
theorem addKey_mem {k : Str} {e : Event} {m : List (Str × Known)} {p : Str × Known} (h : p ∈ addKey k e m) : p ∈ m ∨ (p = (k, ⟨k, e.version, e.stamp⟩) ∧ k.toList ≠ []) := by
 unfold addKey at h; split at h
 ·rename_i hc
  rcases putA_mem h with h | h | h
  ·exact .inr ⟨h, hc.2⟩
  ·exact .inl h.1
  ·exact .inl h
 ·exact .inl h
theorem getA_ok {T : Tab} (hT : T.Ok) {n : Str} {s : TS} (h : getA n T = some s) : s.Ok n := hT.each _ (getA_mem h)
theorem Tab.Ok.put {T : Tab} (hT : T.Ok) {n : Str} {s : TS} (h : s.Ok n) : Tab.Ok (putA n s T) := by
 refine ⟨putA_nodup hT.nd, fun p hp => ?_⟩
 rcases putA_mem hp with rfl | h' | h'
 ·exact h
 ·exact hT.each _ h'.1
 ·exact hT.each _ h'
theorem ev_ok {T : Tab} (hT : T.Ok) (n : Str) : (∀ e ∈ evT T n, okE n e = true) ∧ (∀ (j : Nat) (e : Event), (evT T n)[j]? = some e → e.version = j + 1) ∧ (∀ p ∈ kyT T n, p.2.key = p.1 ∧ knownB p.2 = true ∧ keyFit (evT T n) p.2) ∧ ((kyT T n).map (·.1)).Nodup := by
 unfold evT kyT
 cases h : getA n T with
 | none => simp
 | some s => have := getA_ok hT h; exact ⟨this.evs, this.goes, this.keys, this.nd⟩
theorem keyFit_app {ev l : List Event} {k : Known} (h : keyFit ev k) (h1 : 1 ≤ k.first) : keyFit (ev ++ l) k := by
 obtain ⟨h2, h3⟩ := h
 refine ⟨by rw [List.length_append]; omega, ?_⟩
 rw [← h3, List.map_append]
 have : (k.first - 1).toNat < (ev.map Event.stamp).length := by rw [List.length_map]; omega
 simp only [List.getD_eq_getElem?_getD]
 rw [List.getElem?_append_left this]
theorem append_spec {T : Tab} (hT : T.Ok) {k : Str} {e : Event} {l : List Event} (hk : keyB k = true) (ha : ∀ x ∈ e :: l, x.stream = e.stream ∧ x.stamp = e.stamp ∧ eventB x = true)
 (hg : ∀ (j : Nat) (x : Event), (e :: l)[j]? = some x → x.version = versionT T e.stream + 1 + j) :
 (appendT k (e :: l) T).2 = 0 ∧ (appendT k (e :: l) T).1.Ok ∧ (∀ n, evT (appendT k (e :: l) T).1 n = if n = e.stream then evT T n ++ (e :: l) else evT T n) ∧
 ∀ n, kyT (appendT k (e :: l) T).1 n = if n = e.stream then addKey k e (kyT T n) else kyT T n := by
 have h1 : alikeB (e :: l) = true := by
  unfold alikeB
  simp only [List.all_eq_true, Bool.and_eq_true, decide_eq_true_eq]
  exact ha
 have h2 : goesB (e :: l) (versionT T e.stream) = true := (goes_iff _ _).2 hg
 have he : appendT k (e :: l) T = (putA e.stream ⟨evT T e.stream ++ (e :: l), addKey k e (kyT T e.stream)⟩ T, 0) := by
  unfold appendT
  simp only [h1, hk, h2, ts_getD]
  simp
 rw [he]
 have hev := ev_ok hT e.stream
 have hb := eventB_iff.1 (ha e (by simp)).2.2
 have hve : e.version = versionT T e.stream + 1 := by have := hg 0 e rfl; simpa using this
 refine ⟨rfl, hT.put ⟨hb.1, by simp, ?_, ?_, ?_, addKey_nd hev.2.2.2⟩, fun n => ?_, fun n => ?_⟩
 ·intro x hx
  rcases List.mem_append.1 hx with hx | hx
  ·exact hev.1 x hx
  ·have := ha x hx
   unfold okE
   rw [this.2.2, this.1]; simp
 ·intro j x hx
  rw [List.getElem?_append] at hx
  split at hx
  ·exact hev.2.1 j x hx
  ·rename_i hj
   have := hg _ x hx
   rw [version_ev] at this
   omega
 ·intro p hp
  rcases addKey_mem hp with hp | ⟨rfl, hne⟩
  ·have := hev.2.2.1 p hp
   exact ⟨this.1, this.2.1, keyFit_app this.2.2 (knownB_iff.1 this.2.1).2.2.1⟩
  ·refine ⟨rfl, knownB_iff.2 ⟨by simpa using hne, hk, hb.2.1, hb.2.2.1, hb.2.2.2.2.2.1⟩, ?_, ?_⟩
   ·rw [version_ev] at hve; simp only [List.length_append, List.length_cons]; omega
   ·rw [version_ev] at hve
    have : (e.version - 1).toNat = (evT T e.stream).length := by omega
    simp only [this, List.getD_eq_getElem?_getD, List.getElem?_map]
    rw [List.getElem?_append_right (Nat.le_refl _)]
    simp
 ·rw [evT_put]
  by_cases h : n = e.stream <;> simp [h]
 ·rw [kyT_put]
  by_cases h : n = e.stream <;> simp [h]
structure PutOk (p : Put) : Prop where
 few : p.data.length ≤ 20
 data : ∀ s ∈ p.data, s.size ≤ 1000 ∧ validB s = true
 name : nameB p.stream = true
 full : p.data ≠ []
theorem Batch.Good.putOk {b : Batch} (h : b.Good) : ∀ p ∈ b.puts, PutOk p := fun p hp => by
 obtain ⟨⟨h1, h2⟩, h3, h4, h5, _⟩ := h.puts p hp
 exact ⟨h1, fun s hs => ⟨h2 s hs, by rw [h5] at hs; exact (List.mem_filter.1 hs).2⟩, h3, h4⟩
theorem metOf_zero {l : List Put} {n : Str} : metOf l n = 0 ↔ ∀ x ∈ l, x.stream ≠ n := by
 unfold metOf
 rw [List.length_eq_zero_iff, List.filter_eq_nil_iff]
 simp
theorem putsB_dist (l r : List Put) (h : putsB l r = true) : (r.map Put.stream).Nodup ∧ ∀ p ∈ r, ∀ x ∈ l, x.stream ≠ p.stream := by
 induction r generalizing l with
 | nil => simp
 | cons p r ih =>
   unfold putsB at h
   simp only [Bool.and_eq_true] at h
   obtain ⟨i1, i2⟩ := ih _ h.2
   have hm := metOf_zero.1 (putB_iff.1 h.1).2.1
   simp only [List.map_cons, List.nodup_cons, List.mem_map, not_exists, not_and]
   refine ⟨⟨fun x hx e => i2 x hx p (by simp) e.symm, i1⟩, fun q hq x hx => ?_⟩
   rcases List.mem_cons.1 hq with rfl | hq
   ·exact hm x hx
   ·exact i2 q hq x (by simp [hx])
theorem checkB_dist {b : Batch} (h : checkB b = 0) : (b.puts.map Put.stream).Nodup := by
 unfold checkB at h
 by_cases hm : mayB b = true
 ·unfold mayB at hm
  simp only [Bool.and_eq_true] at hm
  exact (putsB_dist _ _ hm.1).1
 ·rw [if_neg hm] at h; cases h
theorem makeP_at (p : Put) (a b : Int) (st : Stamp) (ix : Int) (d : List Str) (k n j : Nat) : (makeP p a b st ix d k n)[j]? = d[j]?.map fun x => ⟨p.stream, a + b * ((k + j : Nat) : Int), x, st, ix + ((n + j : Nat) : Int)⟩ := by
 induction d generalizing k n j with
 | nil => simp [makeP]
 | cons x d ih =>
   cases j with
   | zero => simp [makeP]
   | succ j =>
     simp only [makeP, List.getElem?_cons_succ, ih]
     rw [show k + 1 + j = k + (j + 1) by omega, show n + 1 + j = n + (j + 1) by omega]
theorem makeP_mem {p : Put} {a b : Int} {st : Stamp} {ix : Int} {d : List Str} {k n : Nat} {e : Event} (h : e ∈ makeP p a b st ix d k n) : ∃ j x, j < d.length ∧ d[j]? = some x ∧ e = ⟨p.stream, a + b * ((k + j : Nat) : Int), x, st, ix + ((n + j : Nat) : Int)⟩ := by
 obtain ⟨j, hj⟩ := List.getElem?_of_mem h
 rw [makeP_at] at hj
 obtain ⟨x, hx, rfl⟩ := Option.map_eq_some_iff.1 hj
 exact ⟨j, x, (List.getElem?_eq_some_iff.1 hx).1, hx, rfl⟩
theorem makeP_stream {p : Put} {a b : Int} {st : Stamp} {ix : Int} {d : List Str} {k n : Nat} {e : Event} (h : e ∈ makeP p a b st ix d k n) : e.stream = p.stream ∧ e.stamp = st := by
 obtain ⟨j, x, _, _, rfl⟩ := makeP_mem h; exact ⟨rfl, rfl⟩
theorem makeF_stream (l : List Put) (f : List Int) (st : Stamp) (ix : Int) (n : Nat) {e : Event} (h : e ∈ makeF l f st ix n) : (∃ p ∈ l, p.stream = e.stream) ∧ e.stamp = st := by
 induction l generalizing f n with
 | nil => cases h
 | cons p r ih =>
   unfold makeF at h
   rcases List.mem_append.1 h with h | h
   ·exact ⟨⟨p, by simp, (makeP_stream h).1.symm⟩, (makeP_stream h).2⟩
   ·obtain ⟨⟨q, hq, e1⟩, e2⟩ := ih _ _ h
    exact ⟨⟨q, by simp [hq], e1⟩, e2⟩
def firstsT (T : Tab) (l : List Put) : List Int := l.map fun p => versionT T p.stream + 1
def knowsT (T : Tab) (k : Str) (st : Stamp) (hit : Bool) (n x : Str) : Known × Bool := if x = k ∧ k.toList ≠ [] ∧ hit = true ∧ (knownT T n k).2 = false then (⟨k, versionT T n + 1, st⟩, true) else knownT T n x
theorem putP_spec {k : Str} {st : Stamp} (hk : keyB k = true) (hst : soundB st = true) : ∀ (l : List Put) (ix : Nat) (T : Tab), T.Ok → (l.map Put.stream).Nodup → (∀ p ∈ l, PutOk p) → (∀ n, versionT T n + 20 * l.length ≤ 1099511627000) → ix + sumD l ≤ 160 →
 (putP k l (makeF l (firstsT T l) st 0 ix) T).Ok ∧ (∀ n, evT (putP k l (makeF l (firstsT T l) st 0 ix) T) n = evT T n ++ (makeF l (firstsT T l) st 0 ix).filter fun e => decide (e.stream = n)) ∧
 ∀ n x, knownT (putP k l (makeF l (firstsT T l) st 0 ix) T) n x = knowsT T k st (l.any fun p => decide (p.stream = n)) n x
 | [], ix, T, hT, _, _, _, _ => by
   refine ⟨hT, fun n => by simp [putP, makeF], fun n x => ?_⟩
   unfold knowsT
   rw [if_neg (by simp)]; rfl
 | p :: r, ix, T, hT, hd, hp, hv, hs => by
   have hpo := hp p (by simp)
   simp only [List.map_cons, List.nodup_cons] at hd
   have hsd : sumD (p :: r) = p.data.length + sumD r := by simp [sumD]
   have hEq : makeF (p :: r) (firstsT T (p :: r)) st 0 ix = makeP p (versionT T p.stream + 1) 1 st 0 p.data 0 ix ++ makeF r (firstsT T r) st 0 (ix + p.data.length) := by
    rw [makeF]; rfl
   have hlen := makeP_len p (versionT T p.stream + 1) 1 st 0 p.data 0 ix
   have hM := @makeP_at p (versionT T p.stream + 1) 1 st 0 p.data 0 ix
   have hMm := fun e => @makeP_mem p (versionT T p.stream + 1) 1 st 0 p.data 0 ix e
   generalize hm : makeP p (versionT T p.stream + 1) 1 st 0 p.data 0 ix = m at hEq hlen hM hMm
   have hput : putP k (p :: r) (makeF (p :: r) (firstsT T (p :: r)) st 0 ix) T = putP k r (makeF r (firstsT T r) st 0 (ix + p.data.length)) (appendT k m T).1 := by
    rw [hEq]
    show putP k r ((m ++ _).drop p.data.length) (appendT k ((m ++ _).take p.data.length) T).1 = _
    rw [← hlen, List.drop_left, List.take_left]
   have hne : p.data.length ≠ 0 := fun e => hpo.full (List.length_eq_zero_iff.1 e)
   cases m with
   | nil => exact absurd hlen.symm (by simpa using hne)
   | cons e m =>
     have hst1 : ∀ x ∈ e :: m, x.stream = p.stream ∧ x.stamp = st ∧ eventB x = true := fun x hx => by
      obtain ⟨j, d, hj, hd2, rfl⟩ := hMm x hx
      have h1 := hv p.stream
      have h2 := (version_ev T p.stream)
      refine ⟨rfl, rfl, eventB_iff.2 ⟨hpo.name, ?_, ?_, (hpo.data d (List.mem_of_getElem? hd2)).1, (hpo.data d (List.mem_of_getElem? hd2)).2, hst, ?_, ?_⟩⟩ <;> (have := hpo.few; simp only []; omega)
     have he := hst1 e (by simp)
     obtain ⟨a1, a2, a3, a4⟩ := append_spec (k := k) (e := e) (l := m) hT hk (fun x hx => ⟨(hst1 x hx).1.trans he.1.symm, (hst1 x hx).2.1.trans he.2.1.symm, (hst1 x hx).2.2⟩) (fun j x hx => by
      rw [hM] at hx
      obtain ⟨d, _, rfl⟩ := Option.map_eq_some_iff.1 hx
      rw [he.1]; simp only []; omega)
     have hev1 : e.version = versionT T p.stream + 1 := by
      have := hM 0
      simp only [List.getElem?_cons_zero] at this
      obtain ⟨d, _, h⟩ := Option.map_eq_some_iff.1 this.symm
      rw [← h]; simp
     rw [he.1] at a3 a4
     have hvr : firstsT (appendT k (e :: m) T).1 r = firstsT T r := by
      unfold firstsT
      refine List.map_congr_left fun q hq => ?_
      rw [version_ev, version_ev, a3, if_neg]
      exact fun h => hd.1 (List.mem_map.2 ⟨q, hq, h⟩)
     have hkn : ∀ n x, knownT (appendT k (e :: m) T).1 n x = knowsT T k st (decide (p.stream = n)) n x := fun n x => by
      unfold knowsT
      simp only [known_ky]
      rw [a4]
      by_cases hn : n = p.stream
      ·subst hn
       simp only [if_true, decide_true, true_and]
       rw [getA_addKey]
       cases h1 : getA k (kyT T p.stream) with
       | none =>
         by_cases hx : x = k ∧ k.toList ≠ []
         ·rw [if_pos ⟨hx.1, rfl, hx.2⟩, if_pos ⟨hx.1, hx.2, rfl⟩, hev1, he.2.1]
         ·rw [if_neg (fun q => hx ⟨q.1, q.2.2⟩), if_neg (fun q => hx ⟨q.1, q.2.1⟩)]
       | some y =>
         rw [if_neg (fun q => by cases q.2.1), if_neg (fun q => by cases q.2.2)]
      ·rw [if_neg hn, if_neg (fun q => hn (of_decide_eq_true q.2.2.1).symm)]
     have hv1 : ∀ n, versionT (appendT k (e :: m) T).1 n + 20 * r.length ≤ 1099511627000 := fun n => by
      have h1 := hv n
      have h2 := hpo.few
      rw [version_ev] at h1 ⊢
      rw [List.length_cons] at h1
      rw [a3]; split
      ·rw [List.length_append]; omega
      ·omega
     obtain ⟨b1, b2, b3⟩ := putP_spec hk hst r (ix + p.data.length) (appendT k (e :: m) T).1 a2 hd.2 (fun q hq => hp q (by simp [hq])) hv1 (by omega)
     rw [hvr] at b1 b2 b3
     rw [hput]
     refine ⟨b1, fun n => ?_, fun n x => ?_⟩
     ·rw [b2, a3, hEq, List.filter_append]
      by_cases hn : n = p.stream
      ·rw [if_pos hn, show (e :: m).filter (fun e => decide (e.stream = n)) = e :: m from List.filter_eq_self.2 (fun x hx => by rw [(hst1 x hx).1, hn]; simp), List.append_assoc]
      ·rw [if_neg hn, show (e :: m).filter (fun e => decide (e.stream = n)) = [] from List.filter_eq_nil_iff.2 (fun x hx => by rw [(hst1 x hx).1]; simpa using fun h => hn h.symm), List.nil_append]
     ·rw [b3]
      simp only [List.any_cons]
      unfold knowsT
      simp only [hkn]
      unfold knowsT
      by_cases hn : p.stream = n
      ·have hno : (r.any fun q => decide (q.stream = n)) = false := by
        rw [List.any_eq_false]
        intro q hq
        simp only [decide_eq_true_eq]
        exact fun h => hd.1 (List.mem_map.2 ⟨q, hq, h.trans hn.symm⟩)
       simp [hn, hno]
      ·have hv2 : versionT (appendT k (e :: m) T).1 n = versionT T n := by rw [version_ev, version_ev, a3, if_neg (fun h => hn h.symm)]
       simp [hn, hv2]
open Go.RowKit
theorem idxI_spec {α : Type} (p : α → Bool) (l : List α) : (idxI p l = -1 ∧ ∀ a ∈ l, p a = false) ∨ ∃ a x b, l = a ++ x :: b ∧ (∀ y ∈ a, p y = false) ∧ p x = true ∧ idxI p l = a.length := by
 unfold idxI
 cases h : l.findIdx? p with
 | none => exact .inl ⟨rfl, by rw [List.findIdx?_eq_none_iff] at h; exact h⟩
 | some i =>
   right
   rw [List.findIdx?_eq_some_iff_getElem] at h
   obtain ⟨hi, hp, hb⟩ := h
   refine ⟨l.take i, l[i], l.drop (i + 1), ?_, ?_, hp, ?_⟩
   ·rw [← List.drop_eq_getElem_cons hi, List.take_append_drop]
   ·intro y hy
    obtain ⟨j, hj, rfl⟩ := List.getElem_of_mem hy
    rw [List.length_take] at hj
    rw [List.getElem_take]
    have := hb j (by omega)
    simpa using this
   ·rw [List.length_take]; simp only [Int.natCast_inj]; omega
theorem has_iff {r : Range} {h : Int} : r.has h = true ↔ r.first ≤ h ∧ h ≤ r.last := by
 simp only [Range.has, Bool.and_eq_true, decide_eq_true_eq]
theorem ownedB_iff {r : Range} : ownedB r = true ↔ 1 ≤ r.owner ∧ r.owner ≤ 5 ∧ 1 ≤ r.epoch ∧ r.epoch ≤ 1099511627776 := by
 simp only [ownedB, Bool.and_eq_true, decide_eq_true_eq]
theorem soundF_cons {r : Range} {l : List Range} {n m : Int} : soundFrom (r :: l) n = some m ↔ (r.first = n ∧ n ≤ r.last ∧ r.last ≤ 4294967295 ∧ ownedB r = true) ∧ soundFrom l (r.last + 1) = some m := by
 simp only [soundFrom]
 by_cases h : r.first = n ∧ n ≤ r.last ∧ r.last ≤ 4294967295 ∧ ownedB r = true
 ·rw [if_pos h]; simp [h]
 ·rw [if_neg h]
  constructor
  ·intro q; cases q
  ·intro q; exact (h q.1).elim
theorem soundFrom_app {a b : List Range} {n m : Int} : soundFrom (a ++ b) n = some m ↔ ∃ k, soundFrom a n = some k ∧ soundFrom b k = some m := by
 induction a generalizing n with
 | nil => simp [soundFrom]
 | cons r a ih =>
   rw [List.cons_append, soundF_cons, ih]
   constructor
   ·rintro ⟨h, k, h1, h2⟩; exact ⟨k, soundF_cons.2 ⟨h, h1⟩, h2⟩
   ·rintro ⟨k, h1, h2⟩; rw [soundF_cons] at h1; exact ⟨h1.1, k, h1.2, h2⟩
theorem soundFrom_le {l : List Range} {n m : Int} (h : soundFrom l n = some m) : n ≤ m := by
 induction l generalizing n with
 | nil => simp [soundFrom] at h; omega
 | cons r l ih => rw [soundF_cons] at h; have := ih h.2; omega
theorem soundFrom_mem {l : List Range} {n m : Int} (h : soundFrom l n = some m) {x : Range} (hx : x ∈ l) : n ≤ x.first ∧ x.first ≤ x.last ∧ x.last < m ∧ x.last ≤ 4294967295 ∧ ownedB x = true := by
 induction l generalizing n with
 | nil => cases hx
 | cons r l ih =>
   rw [soundF_cons] at h
   rcases List.mem_cons.1 hx with rfl | hx
   ·have := soundFrom_le h.2; exact ⟨by omega, by omega, by omega, by omega, h.1.2.2.2⟩
   ·have := ih h.2 hx; exact ⟨by omega, by omega, by omega, by omega, this.2.2.2.2⟩
theorem soundFrom_cover {l : List Range} {n m : Int} (h : soundFrom l n = some m) {k : Int} (h1 : n ≤ k) (h2 : k < m) : ∃ x ∈ l, x.has k = true := by
 induction l generalizing n with
 | nil => simp [soundFrom] at h; omega
 | cons r l ih =>
   rw [soundF_cons] at h
   by_cases hk : k ≤ r.last
   ·exact ⟨r, by simp, has_iff.2 ⟨by omega, hk⟩⟩
   ·obtain ⟨x, hx, h3⟩ := ih h.2 (by omega)
    exact ⟨x, by simp [hx], h3⟩
theorem soundFrom_uniq {l : List Range} {n m : Int} (h : soundFrom l n = some m) {x y : Range} (hx : x ∈ l) (hy : y ∈ l) {k : Int} (h1 : x.has k = true) (h2 : y.has k = true) : x = y := by
 rw [has_iff] at h1 h2
 induction l generalizing n with
 | nil => cases hx
 | cons r l ih =>
   rw [soundF_cons] at h
   rcases List.mem_cons.1 hx with ex | hx' <;> rcases List.mem_cons.1 hy with ey | hy'
   ·rw [ex, ey]
   ·have := soundFrom_mem h.2 hy'; subst ex; omega
   ·have := soundFrom_mem h.2 hx'; subst ey; omega
   ·exact ih h.2 hx' hy'
theorem sound_iff {l : List Range} : soundR l = true ↔ soundFrom l 0 = some 4294967296 ∧ l.length ≤ 64 := by
 simp only [soundR, Bool.and_eq_true, decide_eq_true_eq]
theorem at_spec {l : List Range} (hs : soundR l = true) {h : Int} (h0 : 0 ≤ h) (h1 : h < 4294967296) : ∃ a x b, l = a ++ x :: b ∧ x.has h = true ∧ atR l h = a.length ∧ findR l h = (x, true) := by
 obtain ⟨x, hx, hh⟩ := soundFrom_cover (sound_iff.1 hs).1 h0 h1
 have ha : atR l h = idxI (fun r => r.has h) l := by unfold atR; rw [if_pos hs]
 rcases idxI_spec (fun r : Range => r.has h) l with ⟨_, hn⟩ | ⟨a, y, b, hl, _, hy, hi⟩
 ·rw [hn x hx] at hh; cases hh
 ·refine ⟨a, y, b, hl, hy, by rw [ha, hi], ?_⟩
  unfold findR
  rw [ha, hi, if_neg (by omega), hl]
  simp
theorem find_eq {l : List Range} (hs : soundR l = true) {h : Int} (h0 : 0 ≤ h) (h1 : h < 4294967296) {x : Range} (hx : x ∈ l) (hh : x.has h = true) : findR l h = (x, true) := by
 obtain ⟨a, y, b, hl, hy, _, hf⟩ := at_spec hs h0 h1
 rw [hf, soundFrom_uniq (sound_iff.1 hs).1 hx (by rw [hl]; simp) hh hy]
theorem find_mem {l : List Range} {h : Int} (hf : (findR l h).2 = true) : (findR l h).1 ∈ l ∧ (findR l h).1.has h = true ∧ soundR l = true := by
 unfold findR at hf ⊢
 split at hf
 ·cases hf
 ·rename_i hn
  rw [if_neg hn]
  unfold atR at hn ⊢
  split at hn
  ·rename_i hs
   rw [if_pos hs]
   rcases idxI_spec (fun r : Range => r.has h) l with ⟨hi, _⟩ | ⟨a, y, b, hl, _, hy, hi⟩
   ·omega
   ·rw [hi]
    have hg : l.getD ((a.length : Int)).toNat zeroRange = y := by rw [hl]; simp
    simp only [hg]
    exact ⟨by rw [hl]; simp, hy, hs⟩
  ·omega
theorem at_nonneg {l : List Range} {h : Int} (hn : ¬ atR l h < 0) : ∃ a x b, l = a ++ x :: b ∧ x.has h = true ∧ atR l h = a.length ∧ soundR l = true := by
 unfold atR at hn ⊢
 split at hn
 ·rename_i hs
  rw [if_pos hs]
  rcases idxI_spec (fun r : Range => r.has h) l with ⟨hi, _⟩ | ⟨a, y, b, hl, _, hy, hi⟩
  ·omega
  ·exact ⟨a, y, b, hl, hy, hi, hs⟩
 ·omega
theorem split_spec {l : List Range} {h : Int} (hz : (splitR l h).2 = 0) : ∃ a x b, l = a ++ x :: b ∧ x.has h = true ∧ x.first ≠ h ∧ (splitR l h).1 = a ++ [{ x with last := h - 1, epoch := x.epoch + 1 }, { x with first := h, epoch := x.epoch + 1 }] ++ b ∧ soundR (splitR l h).1 = true ∧ soundR l = true := by
 by_cases hc : atR l h < 0 ∨ (l.getD (atR l h).toNat zeroRange).first = h ∨ (l.getD (atR l h).toNat zeroRange).epoch = 1099511627776
 ·unfold splitR at hz; simp only [if_pos hc] at hz; cases hz
 ·by_cases hc2 : 64 ≤ l.length
  ·unfold splitR at hz; simp only [if_neg hc, if_pos hc2] at hz; cases hz
  ·have he : splitR l h = (l.take (atR l h).toNat ++ ([{ l.getD (atR l h).toNat zeroRange with last := h - 1, epoch := (l.getD (atR l h).toNat zeroRange).epoch + 1 }, { l.getD (atR l h).toNat zeroRange with first := h, epoch := (l.getD (atR l h).toNat zeroRange).epoch + 1 }] ++ l.drop ((atR l h).toNat + 1)), 0) := by
    unfold splitR; simp only [if_neg hc, if_neg hc2]
   simp only [not_or] at hc
   obtain ⟨a, x, b, hl, hx, hi, hs⟩ := at_nonneg hc.1
   rw [he]
   rw [hi] at hc ⊢
   have hg : l.getD ((a.length : Int)).toNat zeroRange = x := by rw [hl]; simp
   rw [hg] at hc ⊢
   have ht : l.take (a.length : Int).toNat = a := by rw [hl]; simp
   have hd : l.drop ((a.length : Int).toNat + 1) = b := by rw [hl]; simp
   rw [ht, hd]
   have hS := sound_iff.1 hs
   refine ⟨a, x, b, hl, hx, hc.2.1, by simp, ?_, hs⟩
   rw [sound_iff]
   obtain ⟨h1, h2⟩ := hS
   rw [hl] at h1 hc2
   rw [soundFrom_app] at h1
   obtain ⟨k, h3, h4⟩ := h1
   rw [soundF_cons] at h4
   rw [has_iff] at hx
   have ho := ownedB_iff.1 h4.1.2.2.2
   refine ⟨soundFrom_app.2 ⟨k, h3, ?_⟩, by simp at hc2 ⊢; omega⟩
   show soundFrom (_ :: _ :: b) k = _
   rw [soundF_cons, soundF_cons]
   refine ⟨⟨h4.1.1, ?_, ?_, ownedB_iff.2 ⟨ho.1, ho.2.1, ?_, ?_⟩⟩, ⟨?_, ?_, h4.1.2.2.1, ownedB_iff.2 ⟨ho.1, ho.2.1, ?_, ?_⟩⟩, h4.2⟩ <;> simp only [] <;> omega
theorem set_spec {l : List Range} {r : Range} (hz : (setR l r).2 = 0) : ∃ a x b, l = a ++ x :: b ∧ x.first = r.first ∧ x.last = r.last ∧ (setR l r).1 = a ++ r :: b ∧ soundR (setR l r).1 = true ∧ soundR l = true ∧ ownedB r = true := by
 unfold setR at hz ⊢
 by_cases hs : soundR l = false
 ·simp only [hs] at hz; simp at hz
 ·simp only [if_neg hs] at hz ⊢
  by_cases hc : atR l r.first < 0 ∨ (l.getD (atR l r.first).toNat zeroRange).first ≠ r.first ∨ (l.getD (atR l r.first).toNat zeroRange).last ≠ r.last
  ·simp only [if_pos hc] at hz; cases hz
  ·simp only [if_neg hc] at hz ⊢
   by_cases ho : ownedB r = false
   ·simp only [if_pos ho] at hz; cases hz
   ·simp only [if_neg ho] at hz ⊢
    simp only [not_or, Decidable.not_not] at hc
    obtain ⟨a, x, b, hl, hx, hi, hs'⟩ := at_nonneg hc.1
    rw [hi] at hc ⊢
    have hg : l.getD ((a.length : Int)).toNat zeroRange = x := by rw [hl]; simp
    rw [hg] at hc
    have hset : l.set (a.length : Int).toNat r = a ++ r :: b := by rw [hl]; simp
    rw [hset]
    refine ⟨a, x, b, hl, hc.2.1, hc.2.2, rfl, ?_, hs', by simpa using ho⟩
    obtain ⟨h1, h2⟩ := sound_iff.1 hs'
    rw [hl] at h1 h2
    rw [soundFrom_app] at h1
    obtain ⟨k, h3, h4⟩ := h1
    rw [soundF_cons] at h4
    rw [sound_iff]
    refine ⟨soundFrom_app.2 ⟨k, h3, soundF_cons.2 ⟨⟨by omega, by omega, by omega, by simpa using ho⟩, ?_⟩⟩, by simpa using h2⟩
    rw [← hc.2.2]; exact h4.2
def posR (r : Range) (n : Int) : Int := if r.first < n then max n (r.last + 1) else n
theorem around_sound {r : Range} (hr : r.first ≤ r.last) (hm : r.last ≤ 4294967295) (ho : ownedB r = true) : ∀ (l : List Range) (n m : Int), soundFrom l n = some m → soundFrom (aroundR l r) (posR r n) = some (posR r m)
 | [], n, m, h => by simp [soundFrom] at h; subst h; rfl
 | x :: l, n, m, h => by
   rw [soundF_cons] at h
   obtain ⟨⟨h1, h2, h3, h4⟩, h5⟩ := h
   have ih := around_sound hr hm ho l _ _ h5
   have hxo : ∀ a b, ownedB { x with first := a, last := b } = true := fun a b => h4
   show soundFrom (aroundX r x ++ aroundR l r) _ = _
   rw [soundFrom_app]
   refine ⟨posR r (x.last + 1), ?_, ih⟩
   unfold aroundX posR
   dsimp only
   by_cases c1 : r.first < n
   ·rw [if_pos c1, if_neg (show ¬ x.first ≤ min x.last (r.first - 1) by omega), if_neg (show ¬ (x.first ≤ r.first ∧ r.first ≤ x.last) by omega), if_pos (show r.first < x.last + 1 by omega)]
    simp only [List.nil_append]
    by_cases c2 : max x.first (r.last + 1) ≤ x.last
    ·rw [if_pos c2, soundF_cons]
     exact ⟨⟨by show max x.first _ = _; omega, by show _ ≤ x.last; omega, h3, h4⟩, by simp only [soundFrom, Option.some.injEq]; omega⟩
    ·rw [if_neg c2]; simp only [soundFrom, Option.some.injEq]; omega
   ·rw [if_neg c1]
    by_cases c2 : r.first ≤ x.last
    ·rw [if_pos (by omega : r.first < x.last + 1), if_pos (⟨by omega, c2⟩ : x.first ≤ r.first ∧ r.first ≤ x.last)]
     have hmid : ∀ q, soundFrom q (r.last + 1) = some (max (x.last + 1) (r.last + 1)) → soundFrom ([r] ++ q) r.first = some (max (x.last + 1) (r.last + 1)) := fun q hq => by
      show soundFrom (r :: q) _ = _
      rw [soundF_cons]; exact ⟨⟨rfl, hr, hm, ho⟩, hq⟩
     have hhigh : soundFrom (if max x.first (r.last + 1) ≤ x.last then [{ x with first := max x.first (r.last + 1) }] else []) (r.last + 1) = some (max (x.last + 1) (r.last + 1)) := by
      by_cases c3 : max x.first (r.last + 1) ≤ x.last
      ·rw [if_pos c3, soundF_cons]
       exact ⟨⟨by show max x.first _ = _; omega, by show _ ≤ x.last; omega, h3, h4⟩, by simp only [soundFrom, Option.some.injEq]; omega⟩
      ·rw [if_neg c3]; simp only [soundFrom, Option.some.injEq]; omega
     by_cases c3 : x.first ≤ min x.last (r.first - 1)
     ·rw [if_pos c3]
      show soundFrom (_ :: ([r] ++ _)) n = _
      rw [soundF_cons]
      refine ⟨⟨h1, by show n ≤ min x.last _; omega, by show min x.last _ ≤ _; omega, h4⟩, ?_⟩
      rw [show (min x.last (r.first - 1)) + 1 = r.first by omega]
      exact hmid _ hhigh
     ·rw [if_neg c3, List.nil_append, show n = r.first by omega]
      exact hmid _ hhigh
    ·rw [if_neg (by omega : ¬ r.first < x.last + 1), if_pos (by omega : x.first ≤ min x.last (r.first - 1)), if_neg (fun q : x.first ≤ r.first ∧ r.first ≤ x.last => c2 q.2), if_neg (show ¬ max x.first (r.last + 1) ≤ x.last by omega)]
     show soundFrom (_ :: []) n = _
     rw [soundF_cons]
     exact ⟨⟨h1, by show n ≤ min x.last _; omega, by show min x.last _ ≤ _; omega, h4⟩, by simp only [soundFrom, Option.some.injEq]; show min x.last _ + 1 = _; omega⟩
theorem around_ok {l : List Range} {r : Range} (hs : soundR l = true) (h0 : 0 ≤ r.first) (hr : r.first ≤ r.last) (hm : r.last ≤ 4294967295) (ho : ownedB r = true) (hl : (aroundR l r).length ≤ 64) : soundR (aroundR l r) = true := by
 rw [sound_iff]
 have := around_sound hr hm ho l _ _ (sound_iff.1 hs).1
 rw [show posR r 0 = 0 by unfold posR; rw [if_neg (by omega)], show posR r 4294967296 = 4294967296 by unfold posR; rw [if_pos (by omega)]; omega] at this
 exact ⟨this, hl⟩
theorem around_out {l : List Range} {r x : Range} {h : Int} (hx : x ∈ l) (hh : x.has h = true) (hr : r.has h = false) : ∃ y ∈ aroundR l r, y.has h = true ∧ y.owner = x.owner ∧ y.epoch = x.epoch := by
 have hn : ¬ (r.first ≤ h ∧ h ≤ r.last) := fun q => by rw [has_iff.2 q] at hr; cases hr
 rw [has_iff] at hh
 have hin : ∀ y, y ∈ aroundX r x → y ∈ aroundR l r := fun y hy => List.mem_flatMap.2 ⟨x, hx, hy⟩
 by_cases c : h < r.first
 ·refine ⟨{ x with last := min x.last (r.first - 1) }, hin _ ?_, has_iff.2 ⟨hh.1, by show h ≤ min _ _; omega⟩, rfl, rfl⟩
  unfold aroundX
  simp only [List.mem_append]
  left
  rw [if_pos (by omega)]
  simp
 ·refine ⟨{ x with first := max x.first (r.last + 1) }, hin _ ?_, has_iff.2 ⟨by show max _ _ ≤ h; omega, hh.2⟩, rfl, rfl⟩
  unfold aroundX
  simp only [List.mem_append]
  right; right
  rw [if_pos (by omega)]
  simp
open Go.RowKit
theorem checkR_iff {r : Rec} : checkR r = 0 ↔ namedK r.kind = true ∧ spareB r (fieldsF r.kind) = true ∧ headBad r (fieldsF r.kind) = false ∧ listsBad r (fieldsF r.kind) = false := by
 unfold checkR recB
 cases namedK r.kind <;> cases spareB r (fieldsF r.kind) <;> cases headBad r (fieldsF r.kind) <;> cases listsBad r (fieldsF r.kind) <;> simp
theorem checkR_kind {r : Rec} (h : checkR r = 0) : 1 ≤ r.kind ∧ r.kind ≤ 11 := by
 have := (checkR_iff.1 h).1
 simpa [namedK] using this
theorem checkR_batch {r : Rec} (h : checkR r = 0) (hk : r.kind = 3 ∨ r.kind = 4) : checkB r.batch = 0 ∧ soundB r.stamp = true := by
 have := (checkR_iff.1 h).2.2.1
 rcases hk with hk | hk <;> (rw [hk] at this; simp [headBad, fieldsF] at this)
 ·exact this
 ·exact this.2
theorem checkR_stamp {r : Rec} (h : checkR r = 0) (hk : r.kind = 5 ∨ r.kind = 6) : soundB r.stamp = true := by
 have := (checkR_iff.1 h).2.2.1
 rcases hk with hk | hk <;> (rw [hk] at this; simp [headBad, fieldsF] at this) <;> exact this.2
theorem checkR_span {r : Rec} (h : checkR r = 0) (hk : r.kind = 9 ∨ r.kind = 10 ∨ r.kind = 11) : 0 ≤ r.range.first ∧ 0 ≤ r.range.last ∧ 0 ≤ r.range.owner ∧ 0 ≤ r.range.epoch := by
 have := (checkR_iff.1 h).2.2.1
 rcases hk with hk | hk | hk <;> (rw [hk] at this; simp [headBad, fieldsF, inW] at this) <;> omega
def lifeS (s : St) (r : Rec) : St × Int := if r.n ≤ s.life then (s, 1) else ({ s with life := r.n }, 0)
def ceilS (s : St) (r : Rec) : St × Int := if r.n ≤ s.ceiling then (s, 1) else ({ s with ceiling := r.n }, 0)
def doS (s : St) (r : Rec) : St × Int :=
 if r.kind = 1 then lifeS s r else if r.kind = 2 then ceilS s r else if r.kind = 3 then commitS s r else if r.kind = 4 then prepareS s r else if r.kind = 5 then decideS s r
 else if r.kind = 6 then outcomeS s r else if r.kind = 7 then forgetS s r else if r.kind = 8 then splitS s r else if r.kind = 9 then freezeS s r else if r.kind = 10 then installS s r else releaseS s r
def applyS (s : St) (r : Rec) : St × Int := if checkR r ≠ 0 then (s, checkR r) else doS s r
def heldD (l : List (Tx × Held)) : Nat := (l.map fun p => sumD p.2.batch.puts).sum
def costR (r : Rec) : Nat := sumD r.batch.puts + (r.streams.map fun s => s.events.length + s.keys.length + 1).sum
structure HeldOk (s : St) (h : Held) : Prop where
 check : checkB h.batch = 0
 firsts : h.firsts = firstsT s.table h.batch.puts
 serves : ∀ p ∈ h.batch.puts, servesS s p.stream = true
 warm : ∀ p ∈ h.batch.puts, ∀ f ∈ s.frozen, f.range.has (hashS p.stream) = false
def Apart (p q : Tx × Held) : Prop := ∀ a ∈ p.2.batch.puts, ∀ b ∈ q.2.batch.puts, a.stream ≠ b.stream
structure Inv (s : St) (N : Nat) : Prop where
 self : 1 ≤ s.self ∧ s.self ≤ s.nodes ∧ s.nodes ≤ 5
 ring : soundR s.ring = true
 tab : s.table.Ok
 size : s.table.length + heldD s.held ≤ N
 evs : ∀ n, (evT s.table n).length + heldD s.held ≤ N
 kys : ∀ n, (kyT s.table n).length + heldD s.held ≤ N
 log : s.log.length + heldD s.held ≤ N
 held : ∀ p ∈ s.held, HeldOk s p.2
 apart : s.held.Pairwise Apart
 nd : (s.held.map (·.1)).Nodup
 frozen : ∀ f ∈ s.frozen, f.range ∈ s.ring ∧ f.range.owner = s.self ∧ f.to ≠ s.self
 fnd : (s.frozen.map Rec.range).Nodup
theorem Inv.mono {s : St} {N M : Nat} (h : Inv s N) (hm : N ≤ M) : Inv s M :=
 { h with size := Nat.le_trans h.size hm, evs := fun n => Nat.le_trans (h.evs n) hm, kys := fun n => Nat.le_trans (h.kys n) hm, log := Nat.le_trans h.log hm }
theorem serves_iff {s : St} (hs : soundR s.ring = true) (n : Str) : servesS s n = true ↔ ∃ x ∈ s.ring, x.has (hashS n) = true ∧ x.owner = s.self := by
 have hb := hashS_bd n
 obtain ⟨a, x, b, hl, hx, _, hf⟩ := at_spec hs hb.1 hb.2
 unfold servesS ofR
 rw [hf]
 simp only [Bool.true_and, decide_eq_true_eq]
 constructor
 ·intro h; exact ⟨x, by rw [hl]; simp, hx, h⟩
 ·rintro ⟨y, hy, h1, h2⟩
  rw [← h2, soundFrom_uniq (sound_iff.1 hs).1 (show x ∈ s.ring by rw [hl]; simp) hy hx h1]
theorem mayP_zero {s : St} {l : List Put} (h : mayP s l = 0) : ∀ p ∈ l, servesS s p.stream = true ∧ busyS s p.stream = false := by
 induction l with
 | nil => simp
 | cons p l ih =>
   unfold mayP at h
   split at h
   ·omega
   ·rename_i h1
    split at h
    ·omega
    ·rename_i h2
     intro q hq
     rcases List.mem_cons.1 hq with rfl | hq
     ·exact ⟨by simpa using h1, by simpa using h2⟩
     ·exact ih h q hq
theorem mayV_zero {T : Tab} {l : List Put} {f : List Int} (h : (mayV T l f).2.2 = 0) : (mayV T l f).1 = f ++ firstsT T l ∧ ∀ p ∈ l, p.expect = -1 ∨ p.expect = versionT T p.stream := by
 induction l generalizing f with
 | nil => simp [mayV, firstsT]
 | cons p l ih =>
   unfold mayV at h ⊢
   split at h
   ·cases h
   ·rename_i hc
    rw [if_neg hc]
    obtain ⟨h1, h2⟩ := ih h
    refine ⟨by rw [h1]; simp [firstsT], fun q hq => ?_⟩
    rcases List.mem_cons.1 hq with rfl | hq
    ·by_cases c : q.expect = -1
     ·exact .inl c
     ·exact .inr (Decidable.byContradiction fun c2 => hc ⟨c, c2⟩)
    ·exact h2 q hq
theorem mayS_zero {s : St} {b : Batch} (h : (mayS s b).2.2 = 0) : checkB b = 0 ∧ (∀ p ∈ b.puts, servesS s p.stream = true ∧ busyS s p.stream = false) ∧ (knownS s b).2.2 = 0 ∧ (mayS s b).1 = firstsT s.table b.puts ∧ ∀ p ∈ b.puts, p.expect = -1 ∨ p.expect = versionT s.table p.stream := by
 unfold mayS at h ⊢
 split at h
 ·rename_i h1; exact absurd h h1
 ·rename_i h1
  rw [if_neg h1]
  split at h
  ·rename_i h2; exact absurd h h2
  ·rename_i h2
   rw [if_neg h2]
   split at h
   ·rename_i h3; exact absurd h h3
   ·rename_i h3
    rw [if_neg h3]
    obtain ⟨h4, h5⟩ := mayV_zero h
    exact ⟨by omega, mayP_zero (by omega), by omega, by simpa using h4, h5⟩
theorem putA_len {κ β : Type} [DecidableEq κ] (k : κ) (v : β) (l : List (κ × β)) : (putA k v l).length ≤ l.length + 1 := by
 induction l with
 | nil => simp [putA]
 | cons p l ih => obtain ⟨x, u⟩ := p; unfold putA; split <;> simp; omega
theorem appendT_len (k : Str) (l : List Event) (T : Tab) : (appendT k l T).1.length ≤ T.length + 1 ∧ ∀ n, (kyT (appendT k l T).1 n).length ≤ (kyT T n).length + 1 := by
 unfold appendT
 cases l with
 | nil => exact ⟨by simp, fun n => by simp⟩
 | cons e l =>
   dsimp only
   split
   ·exact ⟨by simp, fun n => by simp⟩
   ·split
    ·exact ⟨by simp, fun n => by simp⟩
    ·refine ⟨putA_len _ _ _, fun n => ?_⟩
     rw [kyT_put]
     split
     ·rename_i hn; subst hn
      rw [ts_getD]
      unfold addKey
      split
      ·exact putA_len _ _ _
      ·simp
     ·omega
theorem putP_len (k : Str) : ∀ (l : List Put) (E : List Event) (T : Tab), (putP k l E T).length ≤ T.length + l.length ∧ ∀ n, (kyT (putP k l E T) n).length ≤ (kyT T n).length + l.length
 | [], E, T => ⟨by simp [putP], fun n => by simp [putP]⟩
 | p :: l, E, T => by
   obtain ⟨h1, h2⟩ := appendT_len k (E.take p.data.length) T
   obtain ⟨h3, h4⟩ := putP_len k l (E.drop p.data.length) (appendT k (E.take p.data.length) T).1
   unfold putP
   refine ⟨by rw [List.length_cons]; omega, fun n => ?_⟩
   have := h2 n; have := h4 n
   rw [List.length_cons]; omega
theorem fresh_len {T : Tab} (hT : T.Ok) : (freshT T).length = T.length ∧ ∀ n, (kyT (freshT T) n).length = (kyT T n).length := by
 obtain ⟨hL, hO⟩ := fresh_like hashS_bd hT
 refine ⟨?_, fun n => ?_⟩
 ·have := (perm_of_mem hO.nd hT.nd (like_mem hL)).length_eq
  simpa using this
 ·have hn := hL n
  have h1 := ev_ok hO n
  have h2 := ev_ok hT n
  have : ((kyT (freshT T) n).map (·.1)).Perm ((kyT T n).map (·.1)) := by
   refine perm_of_mem h1.2.2.2 h2.2.2.2 fun x => ?_
   have e : getA x (kyT (freshT T) n) = getA x (kyT T n) := by
    unfold kyT
    cases h3 : getA n (freshT T) <;> cases h4 : getA n T <;> rw [h3, h4] at hn
    ·exact hn.elim
    ·exact hn.elim
    ·exact hn.2 x
   cases h : getA x (kyT T n) with
   | none =>
     rw [h] at e
     exact ⟨fun q => absurd q (getA_none.1 e), fun q => absurd q (getA_none.1 h)⟩
   | some y =>
     rw [h] at e
     exact ⟨fun _ => List.mem_map.2 ⟨_, getA_mem h, rfl⟩, fun _ => List.mem_map.2 ⟨_, getA_mem e, rfl⟩⟩
  simpa using this.length_eq
theorem puts_le_sum {l : List Put} (h : ∀ p ∈ l, PutOk p) : l.length ≤ sumD l := by
 induction l with
 | nil => simp
 | cons p l ih =>
   have h1 := ih fun q hq => h q (by simp [hq])
   have h2 : p.data.length ≠ 0 := fun e => (h p (by simp)).full (List.length_eq_zero_iff.1 e)
   simp only [sumD, List.map_cons, List.sum_cons, List.length_cons] at *
   omega
theorem sumD_le {l : List Put} (h : ∀ p ∈ l, PutOk p) : sumD l ≤ 20 * l.length := by
 induction l with
 | nil => simp [sumD]
 | cons p l ih =>
   have h1 := ih fun q hq => h q (by simp [hq])
   have h2 := (h p (by simp)).few
   simp only [sumD, List.map_cons, List.sum_cons, List.length_cons] at *
   omega
structure PutS (s : St) (b : Batch) (st : Stamp) (s' : St) : Prop where
 rest : s' = { s with table := s'.table, log := s'.log }
 ok : s'.table.Ok
 log : s'.log = s.log ++ makeB b (firstsT s.table b.puts) st 0
 evs : ∀ n, evT s'.table n = evT s.table n ++ (makeB b (firstsT s.table b.puts) st 0).filter fun e => decide (e.stream = n)
 knows : ∀ n x, knownT s'.table n x = knowsT s.table b.key st (b.puts.any fun p => decide (p.stream = n)) n x
 size : s'.table.length ≤ s.table.length + b.puts.length
 kys : ∀ n, (kyT s'.table n).length ≤ (kyT s.table n).length + b.puts.length
theorem firsts_like {T T' : Tab} (h : T.Like T') (l : List Put) : firstsT T l = firstsT T' l := List.map_congr_left fun p _ => by rw [TS.Like.version h]
theorem putS_spec {s : St} {b : Batch} {st : Stamp} (hT : s.table.Ok) (hc : checkB b = 0) (hst : soundB st = true) (hv : ∀ n, (evT s.table n).length ≤ 1000000) : PutS s b st (putS s b (firstsT s.table b.puts) st) := by
 obtain ⟨hL, hO⟩ := fresh_like hashS_bd hT
 have hg := checkB_good hc
 have hp := hg.putOk
 have h1 := sumD_le hp
 have h2 := hg.few
 have e := firsts_like hL b.puts
 obtain ⟨a1, a2, a3⟩ := putP_spec (k := b.key) (st := st) hg.key hst b.puts 0 (freshT s.table) hO (checkB_dist hc) hp (fun n => by
  have := hv n
  rw [version_ev, like_ev hL]; omega) (by omega)
 rw [e] at a1 a2 a3
 obtain ⟨l1, l2⟩ := putP_len b.key b.puts (makeB b (firstsT s.table b.puts) st 0) (freshT s.table)
 obtain ⟨f1, f2⟩ := fresh_len hT
 refine ⟨rfl, a1, rfl, fun n => ?_, fun n x => ?_, by show (putP _ _ _ _).length ≤ _; omega, fun n => by have := l2 n; have := f2 n; show (kyT (putP _ _ _ _) n).length ≤ _; omega⟩
 ·show evT (putP _ _ _ _) n = _
  rw [show makeB b (firstsT s.table b.puts) st 0 = makeF b.puts (firstsT s.table b.puts) st 0 0 from rfl, a2, like_ev hL]
 ·show knownT (putP _ _ _ _) n x = _
  rw [show makeB b (firstsT s.table b.puts) st 0 = makeF b.puts (firstsT s.table b.puts) st 0 0 from rfl, a3]
  unfold knowsT
  rw [TS.Like.known hL, TS.Like.known hL, TS.Like.version hL]
open Go.RowKit
theorem evT_nil (n : Str) : evT [] n = [] := rfl
theorem inv_new {self nodes : Int} {s : St} (h : newS self nodes = some s) : Inv s 0 := by
 unfold newS at h
 split at h
 ·cases h
 ·rename_i hc
  injection h with h
  subst h
  have hr : soundR (newR nodes).1 = true := by
   have : nodes = 1 ∨ nodes = 2 ∨ nodes = 3 ∨ nodes = 4 ∨ nodes = 5 := by omega
   rcases this with rfl | rfl | rfl | rfl | rfl <;> rfl
  refine ⟨?_, hr, Tab.Ok.nil_, by simp [heldD], fun n => by simp [heldD, evT_nil], fun n => by simp [heldD, kyT, getA], by simp [heldD], by simp, by simp, by simp, by simp, by simp⟩
  simp only []; omega
theorem HeldOk.of {s s' : St} {h : Held} (k : HeldOk s h) (h1 : ∀ p ∈ h.batch.puts, versionT s'.table p.stream = versionT s.table p.stream) (h2 : ∀ p ∈ h.batch.puts, servesS s' p.stream = true) (h3 : ∀ p ∈ h.batch.puts, ∀ f ∈ s'.frozen, f.range.has (hashS p.stream) = false) : HeldOk s' h :=
 ⟨k.check, by rw [k.firsts]; exact List.map_congr_left fun p hp => by rw [h1 p hp], h2, h3⟩
theorem Inv.same {s s' : St} {N : Nat} (h : Inv s N) (h1 : s'.self = s.self) (h2 : s'.nodes = s.nodes) (h3 : s'.ring = s.ring) (h4 : s'.table = s.table) (h5 : s'.held = s.held) (h6 : s'.frozen = s.frozen) (h7 : s'.log = s.log) : Inv s' N := by
 refine ⟨by rw [h1, h2]; exact h.self, by rw [h3]; exact h.ring, by rw [h4]; exact h.tab, by rw [h4, h5]; exact h.size, by rw [h4, h5]; exact h.evs, by rw [h4, h5]; exact h.kys, by rw [h7, h5]; exact h.log, ?_, by rw [h5]; exact h.apart, by rw [h5]; exact h.nd, by rw [h6, h3, h1]; exact h.frozen, by rw [h6]; exact h.fnd⟩
 intro p hp
 rw [h5] at hp
 have := h.held p hp
 exact this.of (fun q _ => by rw [h4]) (fun q hq => by have := this.serves q hq; unfold servesS at this ⊢; rw [h3, h1]; exact this) (by rw [h6]; exact this.warm)
theorem filter_len_le {α : Type} (p : α → Bool) (l : List α) : (l.filter p).length ≤ l.length := List.length_filter_le _ _
theorem Inv.put {s s' : St} {N : Nat} {b : Batch} {st : Stamp} (h : Inv s N) (hc : checkB b = 0) (hp : PutS s b st s') (hf : ∀ p ∈ s.held, ∀ a ∈ p.2.batch.puts, ∀ q ∈ b.puts, a.stream ≠ q.stream) : Inv s' (N + sumD b.puts) := by
 have hle := puts_le_sum (checkB_good hc).putOk
 have hm : (makeB b (firstsT s.table b.puts) st 0).length = sumD b.puts := makeF_sum _ _ _ _ _
 have hr := hp.rest
 have e5 : s'.held = s.held := by rw [hr]
 have e6 : s'.frozen = s.frozen := by rw [hr]
 have e3 : s'.ring = s.ring := by rw [hr]
 have e1 : s'.self = s.self := by rw [hr]
 refine ⟨by rw [hr]; exact h.self, by rw [hr]; exact h.ring, hp.ok, ?_, fun n => ?_, fun n => ?_, ?_, ?_, by rw [e5]; exact h.apart, by rw [e5]; exact h.nd, by rw [e6, e3, e1]; exact h.frozen, by rw [e6]; exact h.fnd⟩
 ·rw [e5]; have := hp.size; have := h.size; omega
 ·rw [e5, hp.evs, List.length_append]
  have h1 := filter_len_le (fun e => decide (e.stream = n)) (makeB b (firstsT s.table b.puts) st 0)
  have h2 := h.evs n
  omega
 ·rw [e5]; have := hp.kys n; have := h.kys n; omega
 ·rw [e5, hp.log, List.length_append]; have := h.log; omega
 ·intro p hpp
  rw [e5] at hpp
  have := h.held p hpp
  refine this.of (fun q hq => ?_) (fun q hq => by have := this.serves q hq; unfold servesS at this ⊢; rw [e3, e1]; exact this) (by rw [e6]; exact this.warm)
  rw [version_ev, version_ev, hp.evs, List.filter_eq_nil_iff.2, List.append_nil]
  intro e he
  obtain ⟨⟨q', hq', e1⟩, _⟩ := makeF_stream _ _ _ _ _ he
  simp only [decide_eq_true_eq]
  intro e2
  exact hf p hpp q hq q' hq' (e2.symm.trans e1.symm)
theorem busy_free {s : St} {b : Batch} (h : ∀ p ∈ b.puts, busyS s p.stream = false) : (∀ p ∈ s.held, ∀ a ∈ p.2.batch.puts, ∀ q ∈ b.puts, a.stream ≠ q.stream) ∧ ∀ q ∈ b.puts, ∀ f ∈ s.frozen, f.range.has (hashS q.stream) = false := by
 refine ⟨fun p hp a ha q hq e => ?_, fun q hq f hf => ?_⟩ <;>
 ·have := h q hq
  unfold busyS at this
  simp only [Bool.or_eq_false_iff, List.any_eq_false] at this
  first
   | exact this.2 p hp (by rw [List.any_eq_true]; exact ⟨a, ha, by simpa using e⟩)
   | simpa using this.1 f hf
theorem heldD_put {l : List (Tx × Held)} {tx : Tx} {h : Held} (hn : getA tx l = none) : heldD (putA tx h l) = heldD l + sumD h.batch.puts := by
 induction l with
 | nil => simp [putA, heldD]
 | cons p l ih =>
   obtain ⟨x, v⟩ := p
   unfold getA at hn
   split at hn
   ·cases hn
   ·rename_i hne
    unfold putA
    rw [if_neg hne]
    have := ih hn
    simp only [heldD, List.map_cons, List.sum_cons] at *
    omega
theorem heldD_del {l : List (Tx × Held)} {tx : Tx} {h : Held} (hn : getA tx l = some h) : heldD (delA tx l) + sumD h.batch.puts = heldD l := by
 induction l with
 | nil => cases hn
 | cons p l ih =>
   obtain ⟨x, v⟩ := p
   unfold getA at hn
   unfold delA
   split at hn
   ·rename_i hx
    injection hn with hn; subst hn
    rw [if_pos hx]
    simp only [heldD, List.map_cons, List.sum_cons]; omega
   ·rename_i hne
    rw [if_neg hne]
    have := ih hn
    simp only [heldD, List.map_cons, List.sum_cons] at *
    omega
theorem putA_new {κ β : Type} [DecidableEq κ] {k : κ} {v : β} {l : List (κ × β)} (h : getA k l = none) : putA k v l = l ++ [(k, v)] := by
 induction l with
 | nil => rfl
 | cons p l ih =>
   obtain ⟨x, u⟩ := p
   unfold getA at h
   split at h
   ·cases h
   ·rename_i hne
    unfold putA
    rw [if_neg hne, ih h]; rfl
theorem commit_inv {s : St} {N : Nat} {r : Rec} (h : Inv s N) (hN : N ≤ 1000000) (hst : soundB r.stamp = true) : Inv (commitS s r).1 (N + sumD r.batch.puts) := by
 unfold commitS
 split
 ·rename_i hz
  obtain ⟨h1, h2, h3, h4, h5⟩ := mayS_zero hz
  rw [h4]
  exact h.put h1 (putS_spec h.tab h1 hst fun n => by have := h.evs n; omega) (busy_free fun p hp => (h2 p hp).2).1
 ·exact h.mono (by omega)
theorem prepare_inv {s : St} {N : Nat} {r : Rec} (h : Inv s N) : Inv (prepareS s r).1 (N + sumD r.batch.puts) := by
 unfold prepareS
 split
 ·exact h.mono (by omega)
 ·rename_i hno
  split
  ·exact h.mono (by omega)
  ·split
   ·rename_i hz
    obtain ⟨h1, h2, h3, h4, h5⟩ := mayS_zero hz
    have hn : getA r.tx s.held = none := by
     cases h : getA r.tx s.held with
     | none => rfl
     | some x => rw [h] at hno; simp at hno
    have hd := heldD_put (h := ⟨r.tx, r.batch, r.stamp, (mayS s r.batch).1⟩) hn
    simp only at hd
    obtain ⟨b1, b2⟩ := busy_free fun p hp => (h2 p hp).2
    have hmem : ∀ {p : Tx × Held}, p ∈ putA r.tx ⟨r.tx, r.batch, r.stamp, (mayS s r.batch).1⟩ s.held → p ∈ s.held ∨ p = (r.tx, ⟨r.tx, r.batch, r.stamp, (mayS s r.batch).1⟩) := fun {p} hp => by
     rw [putA_new hn] at hp
     rcases List.mem_append.1 hp with hp | hp
     ·exact .inl hp
     ·exact .inr (by simpa using hp)
    refine ⟨h.self, h.ring, h.tab, ?_, fun n => ?_, fun n => ?_, ?_, fun p hp => ?_, ?_, putA_nodup h.nd, h.frozen, h.fnd⟩
    ·simp only [hd]; have := h.size; omega
    ·simp only [hd]; have := h.evs n; omega
    ·simp only [hd]; have := h.kys n; omega
    ·simp only [hd]; have := h.log; omega
    ·rcases hmem hp with hp | rfl
     ·exact (h.held p hp).of (fun _ _ => rfl) (h.held p hp).serves (h.held p hp).warm
     ·exact ⟨h1, h4, fun p hp => (h2 p hp).1, b2⟩
    ·show (putA _ _ _).Pairwise _
     rw [putA_new hn, List.pairwise_append]
     refine ⟨h.apart, by simp, fun p hp q hq => ?_⟩
     simp only [List.mem_singleton] at hq
     subst hq
     exact b1 p hp
   ·exact h.mono (by omega)
theorem undo_inv {s : St} {N : Nat} {tx : Tx} {hd : Held} (h : Inv s N) (hg : getA tx s.held = some hd) (dec : List (Tx × Int)) : ∃ M, M + sumD hd.batch.puts = N ∧ Inv { s with held := delA tx s.held, decided := dec } M ∧ ∀ p ∈ delA tx s.held, ∀ a ∈ p.2.batch.puts, ∀ q ∈ hd.batch.puts, a.stream ≠ q.stream := by
 have hs := heldD_del hg
 have h1 := h.size
 refine ⟨N - sumD hd.batch.puts, by omega, ?_, ?_⟩
 ·have hsub := delA_sub tx s.held
  refine ⟨h.self, h.ring, h.tab, by simp only []; omega, fun n => by have := h.evs n; simp only []; omega, fun n => by have := h.kys n; simp only []; omega, by have := h.log; simp only []; omega, fun p hp => ?_, h.apart.sublist hsub, delA_nodup h.nd, h.frozen, h.fnd⟩
  have := h.held p (hsub.subset hp)
  exact this.of (fun _ _ => rfl) this.serves this.warm
 ·have hap := h.apart
  have hnd := h.nd
  clear hs h1
  generalize s.held = l at *
  induction l with
  | nil => cases hg
  | cons p l ih =>
    obtain ⟨x, v⟩ := p
    rw [List.pairwise_cons] at hap
    simp only [List.map_cons, List.nodup_cons] at hnd
    unfold getA at hg
    unfold delA
    split at hg
    ·rename_i hx
     injection hg with hg; subst hg
     rw [if_pos hx]
     exact fun p hp a ha q hq e => hap.1 p hp q hq a ha e.symm
    ·rename_i hne
     rw [if_neg hne]
     intro p hp
     rcases List.mem_cons.1 hp with rfl | hp
     ·exact fun a ha q hq => hap.1 _ (getA_mem hg) a ha q hq
     ·exact ih hg hap.2 hnd.2 p hp
theorem decide_inv {s : St} {N : Nat} {r : Rec} (h : Inv s N) (hN : N ≤ 1000000) (hst : soundB r.stamp = true) : Inv (decideS s r).1 N := by
 unfold decideS
 cases hg : getA r.tx s.held with
 | none => exact h
 | some hd =>
   obtain ⟨M, hM, hI, hF⟩ := undo_inv h hg (putA r.tx 1 s.decided)
   have hh := h.held _ (getA_mem hg)
   dsimp only
   split
   ·have e : hd.firsts = firstsT s.table hd.batch.puts := hh.firsts
    have := hI.put hh.check (putS_spec (st := r.stamp) hI.tab hh.check hst fun n => by have := hI.evs n; omega) hF
    rw [hM] at this
    rw [e]
    exact this
   ·exact hI.mono (by omega)
theorem outcome_inv {s : St} {N : Nat} {r : Rec} (h : Inv s N) : Inv (outcomeS s r).1 N := by
 unfold outcomeS
 split
 ·exact h
 ·split
  ·exact h
  ·exact h.same rfl rfl rfl rfl rfl rfl rfl
theorem forget_inv {s : St} {N : Nat} {r : Rec} (h : Inv s N) : Inv (forgetS s r).1 N := by
 unfold forgetS
 split
 ·exact h
 ·exact h.same rfl rfl rfl rfl rfl rfl rfl
theorem iced_neg {s : St} {k : Int} (h : ¬ 0 ≤ icedS s k) : ∀ f ∈ s.frozen, f.range.has k = false := by
 unfold icedS at h
 rcases idxI_spec (fun f : Rec => f.range.has k) s.frozen with ⟨_, hn⟩ | ⟨a, x, b, _, _, _, hi⟩
 ·exact hn
 ·rw [hi] at h; omega
theorem split_inv {s : St} {N : Nat} {r : Rec} (h : Inv s N) : Inv (splitS s r).1 N := by
 unfold splitS
 split
 ·exact h
 ·rename_i hc
  split
  ·exact h
  ·rename_i hc2
   simp only [not_or] at hc hc2
   split
   ·rename_i hz
    obtain ⟨a, x, b, hl, hx, hne, he, hs, _⟩ := split_spec hz
    have hice := iced_neg hc2.1
    have hf : (findR s.ring r.n).1 = x := by
     obtain ⟨m1, m2, _⟩ := find_mem (by simpa using hc.1 : (findR s.ring r.n).2 = true)
     exact soundFrom_uniq (sound_iff.1 h.ring).1 m1 (by rw [hl]; simp) m2 hx
    have hown : x.owner = s.self := by rw [← hf]; simpa using hc.2
    refine ⟨h.self, hs, h.tab, h.size, h.evs, h.kys, h.log, fun p hp => ?_, h.apart, h.nd, fun f hf => ?_, h.fnd⟩
    ·have hh := h.held p hp
     refine hh.of (fun _ _ => rfl) (fun q hq => ?_) hh.warm
     have := hh.serves q hq
     rw [serves_iff h.ring] at this
     rw [serves_iff hs]
     obtain ⟨y, hy, hy1, hy2⟩ := this
     show ∃ x ∈ (splitR s.ring r.n).1, _
     rw [he]
     rw [hl] at hy
     rcases List.mem_append.1 hy with hy | hy
     ·exact ⟨y, by simp [hy], hy1, hy2⟩
     ·rcases List.mem_cons.1 hy with rfl | hy
      ·rw [has_iff] at hy1
       by_cases hh : hashS q.stream < r.n
       ·exact ⟨{ y with last := r.n - 1, epoch := y.epoch + 1 }, by simp, has_iff.2 ⟨hy1.1, by simp only []; omega⟩, hy2⟩
       ·exact ⟨{ y with first := r.n, epoch := y.epoch + 1 }, by simp, has_iff.2 ⟨by simp only []; omega, hy1.2⟩, hy2⟩
      ·exact ⟨y, by simp [hy], hy1, hy2⟩
    ·obtain ⟨f1, f2, f3⟩ := h.frozen f hf
     refine ⟨?_, f2, f3⟩
     show f.range ∈ (splitR s.ring r.n).1
     rw [he]
     rw [hl] at f1
     rcases List.mem_append.1 f1 with hy | hy
     ·simp [hy]
     ·rcases List.mem_cons.1 hy with e | hy
      ·have := hice f hf
       rw [e, hx] at this; cases this
      ·simp [hy]
   ·exact h
theorem locked_false {s : St} {r : Range} (h : ¬ lockedS s r = true) : ∀ p ∈ s.held, ∀ q ∈ p.2.batch.puts, r.has (hashS q.stream) = false := by
 intro p hp q hq
 cases hc : r.has (hashS q.stream) with
 | false => rfl
 | true =>
   exact (h (by unfold lockedS; rw [List.any_eq_true]; exact ⟨p, hp, by rw [List.any_eq_true]; exact ⟨q, hq, hc⟩⟩)).elim
theorem freeze_inv {s : St} {N : Nat} {r : Rec} (h : Inv s N) : Inv (freezeS s r).1 N := by
 unfold freezeS
 split
 ·exact h
 ·rename_i hc
  split
  ·exact h
  ·rename_i hc2
   split
   ·exact h
   ·rename_i hc3
    simp only [not_or, Decidable.not_not] at hc hc2 hc3
    have hl := locked_false hc2.2
    have hice := iced_neg hc2.1
    refine ⟨h.self, h.ring, h.tab, h.size, h.evs, h.kys, h.log, fun p hp => ?_, h.apart, h.nd, fun f hf => ?_, ?_⟩
    ·have hh := h.held p hp
     refine hh.of (fun _ _ => rfl) hh.serves (fun q hq f hf => ?_)
     rcases List.mem_append.1 hf with hf | hf
     ·exact hh.warm q hq f hf
     ·simp only [List.mem_singleton] at hf; subst hf
      exact hl p hp q hq
    ·rcases List.mem_append.1 hf with hf | hf
     ·exact h.frozen f hf
     ·simp only [List.mem_singleton] at hf; subst hf
      exact ⟨hc.1, hc.2, hc3.2.2⟩
    ·show ((s.frozen ++ [r]).map Rec.range).Nodup
     rw [List.map_append, List.nodup_append]
     refine ⟨h.fnd, by simp, fun x hx y hy e => ?_⟩
     simp only [List.map_cons, List.map_nil, List.mem_singleton] at hy
     subst hy; subst e
     obtain ⟨f, hf, e⟩ := List.mem_map.1 hx
     have := hice f hf
     rw [e] at this
     have hm := soundFrom_mem (sound_iff.1 h.ring).1 hc.1
     rw [has_iff.2 ⟨Int.le_refl _, hm.2.1⟩] at this; cases this
theorem foldl_del {T : Tab} (l : List Str) (hT : (T.map (·.1)).Nodup) (n : Str) : (n ∈ l → getA n (l.foldl (fun T n => delA n T) T) = none) ∧ (n ∉ l → getA n (l.foldl (fun T n => delA n T) T) = getA n T) := by
 induction l generalizing T with
 | nil => simp
 | cons x l ih =>
   rw [List.foldl_cons]
   obtain ⟨i1, i2⟩ := ih (delA_nodup (k := x) hT)
   rw [getA_del hT] at i2
   by_cases h1 : n ∈ l
   ·exact ⟨fun _ => i1 h1, fun q => (q (by simp [h1])).elim⟩
   ·rw [i2 h1]
    by_cases h2 : n = x
    ·simp [h2]
    ·simp [h1, h2]
theorem foldl_del_sub {T : Tab} (l : List Str) : (l.foldl (fun T n => delA n T) T).Sublist T := by
 induction l generalizing T with
 | nil => exact List.Sublist.refl _
 | cons x l ih => rw [List.foldl_cons]; exact ih.trans (delA_sub x T)
theorem drop_get {T : Tab} (hT : T.Ok) (r : Range) (n : Str) : getA n (dropT T r) = if inR r n = true then none else getA n T := by
 unfold dropT
 obtain ⟨h3, h4⟩ := foldl_del (someT T r) hT.nd n
 unfold someT at h3 h4 ⊢
 simp only [List.mem_filter, mem_sort] at h3 h4
 by_cases h1 : inR r n = true
 ·rw [if_pos h1]
  by_cases h2 : n ∈ T.map (·.1)
  ·exact h3 ⟨h2, h1⟩
  ·rw [h4 (fun q => h2 q.1)]; exact getA_none.2 h2
 ·rw [if_neg h1]; exact h4 (fun q => h1 q.2)
theorem drop_ok {T : Tab} (hT : T.Ok) (r : Range) : (dropT T r).Ok ∧ (dropT T r).length ≤ T.length := by
 have hs := foldl_del_sub (T := T) (someT T r)
 exact ⟨⟨hT.nd.sublist (hs.map _), fun p hp => hT.each p (hs.subset hp)⟩, hs.length_le⟩
theorem drop_ev {T : Tab} (hT : T.Ok) (r : Range) (n : Str) : evT (dropT T r) n = (if inR r n = true then [] else evT T n) ∧ kyT (dropT T r) n = (if inR r n = true then [] else kyT T n) := by
 unfold evT kyT
 rw [drop_get hT]
 by_cases h : inR r n = true <;> simp [h]
theorem putT_zero {l : List Stream} {T T' : Tab} (h : (putT l T).2 = 0) : okPut [] l = true ∧ putT l T' = (putAll l T', 0) := by
 unfold putT at h ⊢
 split at h
 ·rename_i h1; exact ⟨h1, if_pos h1⟩
 ·cases h
theorem putAll_len {l : List Stream} {T : Tab} : (putAll l T).length ≤ T.length + l.length := by
 unfold putAll
 induction l generalizing T with
 | nil => simp
 | cons s l ih =>
   rw [List.foldl_cons, List.length_cons]
   have h1 := ih (T := putA s.name ⟨s.events, keysOf s.keys⟩ T)
   have h2 := putA_len s.name (⟨s.events, keysOf s.keys⟩ : TS) T
   omega
theorem keysOf_len (l : List Known) : (keysOf l).length ≤ l.length := by
 have : ∀ (l : List Known) (m : List (Str × Known)), (l.foldl (fun m k => putA k.key k m) m).length ≤ m.length + l.length := by
  intro l
  induction l with
  | nil => simp
  | cons k l ih =>
    intro m
    rw [List.foldl_cons, List.length_cons]
    have h1 := ih (putA k.key k m)
    have h2 := putA_len k.key k m
    omega
 have h := this l []
 rwa [List.length_nil, Nat.zero_add] at h
def streamsD (l : List Stream) : Nat := (l.map fun s => s.events.length + s.keys.length + 1).sum
theorem streamsD_mem {l : List Stream} {s : Stream} (h : s ∈ l) : s.events.length + s.keys.length + 1 ≤ streamsD l := by
 unfold streamsD
 induction l with
 | nil => cases h
 | cons x l ih =>
   simp only [List.map_cons, List.sum_cons]
   rcases List.mem_cons.1 h with rfl | h
   ·omega
   ·have := ih h; omega
theorem streamsD_len (l : List Stream) : l.length ≤ streamsD l := by
 unfold streamsD
 induction l with
 | nil => simp
 | cons x l ih => simp only [List.map_cons, List.sum_cons, List.length_cons]; omega
theorem putAll_ev {l : List Stream} {T : Tab} (hn : (l.map Stream.name).Nodup) (n : Str) : (∃ s ∈ l, s.name = n ∧ evT (putAll l T) n = s.events ∧ kyT (putAll l T) n = keysOf s.keys) ∨ ((∀ s ∈ l, s.name ≠ n) ∧ evT (putAll l T) n = evT T n ∧ kyT (putAll l T) n = kyT T n) := by
 by_cases h : n ∈ l.map Stream.name
 ·obtain ⟨s, hs, rfl⟩ := List.mem_map.1 h
  left
  refine ⟨s, hs, rfl, ?_, ?_⟩
  ·unfold evT; rw [putAll_in hn hs]; rfl
  ·unfold kyT; rw [putAll_in hn hs]; rfl
 ·right
  refine ⟨fun s hs e => h (List.mem_map.2 ⟨s, hs, e⟩), ?_, ?_⟩
  ·unfold evT; rw [putAll_out h]
  ·unfold kyT; rw [putAll_out h]
theorem newer_iff {s : St} {r : Range} : newerS s r = true ↔ r.owner = s.self ∧ ∀ x ∈ s.ring, ¬ (r.first ≤ r.last ∧ x.first ≤ r.last ∧ r.first ≤ x.last ∧ (x.owner = s.self ∨ r.epoch ≤ x.epoch)) := by
 unfold newerS
 simp only [Bool.and_eq_true, decide_eq_true_eq, List.all_eq_true, Bool.not_eq_true', Bool.and_eq_false_iff, Bool.or_eq_false_iff, decide_eq_false_iff_not]
 constructor
 ·rintro ⟨h1, h2⟩
  refine ⟨h1, fun x hx q => ?_⟩
  have := h2 x hx
  omega
 ·rintro ⟨h1, h2⟩
  refine ⟨h1, fun x hx => ?_⟩
  have := h2 x hx
  omega
theorem span_iff {r : Range} : spanB r = true ↔ r.first ≤ r.last ∧ r.last ≤ 4294967295 ∧ 1 ≤ r.epoch ∧ r.epoch ≤ 1099511627776 := by
 simp only [spanB, Bool.and_eq_true, decide_eq_true_eq]
theorem install_inv {s : St} {N : Nat} {r : Rec} (h : Inv s N) (hsp : 0 ≤ r.range.first) : Inv (installS s r).1 (N + streamsD r.streams) := by
 unfold installS
 split
 ·exact h.mono (by omega)
 ·rename_i hnew
  split
  ·exact h.mono (by omega)
  ·rename_i hc
   split
   ·exact h.mono (by omega)
   ·rename_i hlen
    simp only [not_or, Decidable.not_not] at hc
    obtain ⟨c1, c2, c3⟩ := hc
    obtain ⟨hok, hput⟩ := putT_zero (T' := dropT (freshT s.table) r.range) c3
    obtain ⟨o1, o2, _⟩ := (okPut_iff _ _).1 hok
    have hnw := newer_iff.1 (by simpa using hnew)
    have hsn := span_iff.1 (by simpa using c1)
    have hself := h.self
    have hring : soundR (aroundR s.ring r.range) = true := around_ok h.ring hsp hsn.1 hsn.2.1 (ownedB_iff.2 ⟨by omega, by omega, hsn.2.2.1, hsn.2.2.2⟩) (by omega)
    have hin : ∀ x ∈ r.streams, r.range.has (hashS x.name) = true := fun x hx => by
     cases hq : r.range.has (hashS x.name) with
     | true => rfl
     | false => exact (c2 (by rw [List.any_eq_true]; exact ⟨x, hx, by rw [hq]; rfl⟩)).elim
    have hout : ∀ x ∈ s.ring, x.owner = s.self → x.last < r.range.first ∨ r.range.last < x.first := fun x hx e => by
     have := hnw.2 x hx
     omega
    obtain ⟨hL, hO⟩ := fresh_like hashS_bd h.tab
    obtain ⟨f1, f2⟩ := fresh_len h.tab
    obtain ⟨d1, d2⟩ := drop_ok hO r.range
    rw [hput]
    dsimp only
    have hev : ∀ n, (evT (putAll r.streams (dropT (freshT s.table) r.range)) n).length ≤ (evT s.table n).length + streamsD r.streams ∧ (kyT (putAll r.streams (dropT (freshT s.table) r.range)) n).length ≤ (kyT s.table n).length + streamsD r.streams := fun n => by
     rcases putAll_ev (T := dropT (freshT s.table) r.range) o2 n with ⟨x, hx, _, e1, e2⟩ | ⟨_, e1, e2⟩
     ·have := streamsD_mem hx
      have := keysOf_len x.keys
      rw [e1, e2]; omega
     ·have h1 := drop_ev hO r.range n
      have h2 := like_ev hL n
      have h3 := f2 n
      rw [e1, e2, h1.1, h1.2, h2]
      split
      ·simp
      ·omega
    have hsv : ∀ n, servesS s n = true → servesS { s with ring := aroundR s.ring r.range, table := putAll r.streams (dropT (freshT s.table) r.range) } n = true ∧ r.range.has (hashS n) = false := fun n hn => by
     rw [serves_iff h.ring] at hn
     obtain ⟨x, hx, h1, h2⟩ := hn
     have hno : r.range.has (hashS n) = false := by
      cases hq : r.range.has (hashS n) with
      | false => rfl
      | true => rw [has_iff] at hq h1; have := hout x hx h2; omega
     refine ⟨?_, hno⟩
     rw [serves_iff hring]
     obtain ⟨y, hy, y1, y2, _⟩ := around_out hx h1 hno
     exact ⟨y, hy, y1, y2.trans h2⟩
    refine ⟨h.self, hring, putAll_ok d1 o1, ?_, fun n => ?_, fun n => ?_, ?_, fun p hp => ?_, h.apart, h.nd, fun f hf => ?_, h.fnd⟩
    ·have := putAll_len (l := r.streams) (T := dropT (freshT s.table) r.range)
     have := streamsD_len r.streams
     have := h.size
     simp only []; omega
    ·have := (hev n).1; have := h.evs n; simp only []; omega
    ·have := (hev n).2; have := h.kys n; simp only []; omega
    ·have := h.log; simp only []; omega
    ·have hh := h.held p hp
     refine hh.of (fun q hq => ?_) (fun q hq => (hsv _ (hh.serves q hq)).1) hh.warm
     have hno := (hsv _ (hh.serves q hq)).2
     simp only [version_ev]
     rcases putAll_ev (T := dropT (freshT s.table) r.range) o2 q.stream with ⟨x, hx, e, _⟩ | ⟨_, e1, _⟩
     ·have := hin x hx
      rw [e, hno] at this; cases this
     ·rw [e1, (drop_ev hO r.range q.stream).1, if_neg (by unfold inR; rw [hno]; simp), like_ev hL]
    ·obtain ⟨a1, a2, a3⟩ := h.frozen f hf
     refine ⟨List.mem_flatMap.2 ⟨f.range, a1, ?_⟩, a2, a3⟩
     have hm := soundFrom_mem (sound_iff.1 h.ring).1 a1
     rcases hout _ a1 a2 with ho | ho
     ·unfold aroundX
      dsimp only
      rw [if_pos (show f.range.first ≤ min f.range.last (r.range.first - 1) by omega), show min f.range.last (r.range.first - 1) = f.range.last by omega]
      simp
     ·unfold aroundX
      dsimp only
      rw [if_pos (show max f.range.first (r.range.last + 1) ≤ f.range.last by omega), show max f.range.first (r.range.last + 1) = f.range.first by omega]
      simp
theorem eraseIdx_of_split {α : Type} (a b : List α) (x : α) : (a ++ x :: b).eraseIdx a.length = a ++ b := by
 induction a with
 | nil => rfl
 | cons y a ih => simp [ih]
theorem release_inv {s : St} {N : Nat} {r : Rec} (h : Inv s N) : Inv (releaseS s r).1 N := by
 unfold releaseS
 dsimp only
 split
 ·exact h
 ·rename_i hi
  split
  ·exact h
  ·rename_i hc
   split
   ·exact h
   ·rename_i hz
    simp only [Decidable.not_not] at hz
    obtain ⟨a, x, b, hl, e1, e2, he, hs, _, ho⟩ := set_spec hz
    rcases idxI_spec (fun f : Rec => decide (f.range.first = r.range.first) && decide (f.range.last = r.range.last)) s.frozen with ⟨hn, _⟩ | ⟨fa, fx, fb, hfl, _, hfx, hfi⟩
    ·rw [hn] at hi; exact absurd (by omega) hi
    ·simp only [Bool.and_eq_true, decide_eq_true_eq] at hfx
     have hx : x ∈ s.ring := by rw [hl]; simp
     have hxm := soundFrom_mem (sound_iff.1 h.ring).1 hx
     have hfr := h.frozen fx (by rw [hfl]; simp)
     have hfe : fx.range = x := soundFrom_uniq (sound_iff.1 h.ring).1 hfr.1 hx (k := x.first) (has_iff.2 (by omega)) (has_iff.2 (by omega))
     have hera : s.frozen.eraseIdx (idxI (fun f : Rec => decide (f.range.first = r.range.first) && decide (f.range.last = r.range.last)) s.frozen).toNat = fa ++ fb := by
      rw [hfi, hfl]; exact eraseIdx_of_split fa fb fx
     rw [hera]
     have hsub : ∀ f, f ∈ fa ++ fb → f ∈ s.frozen := fun f hf => by
      rw [hfl]
      rcases List.mem_append.1 hf with hf | hf <;> simp [hf]
     have hnd := h.fnd
     rw [hfl, List.map_append, List.map_cons, List.nodup_append] at hnd
     obtain ⟨n1, n2, n3⟩ := hnd
     rw [List.nodup_cons] at n2
     obtain ⟨hL, hO⟩ := fresh_like hashS_bd h.tab
     obtain ⟨f1, f2⟩ := fresh_len h.tab
     obtain ⟨d1, d2⟩ := drop_ok hO r.range
     have hev : ∀ n, (evT (dropT (freshT s.table) r.range) n).length ≤ (evT s.table n).length ∧ (kyT (dropT (freshT s.table) r.range) n).length ≤ (kyT s.table n).length := fun n => by
      have h1 := drop_ev hO r.range n
      have h2 := like_ev hL n
      have h3 := f2 n
      rw [h1.1, h1.2, h2]
      split
      ·simp
      ·omega
     refine ⟨h.self, hs, d1, ?_, fun n => ?_, fun n => ?_, h.log, fun p hp => ?_, h.apart, h.nd, fun f hf => ?_, ?_⟩
     ·have := h.size; simp only []; omega
     ·have := (hev n).1; have := h.evs n; simp only []; omega
     ·have := (hev n).2; have := h.kys n; simp only []; omega
     ·have hh := h.held p hp
      have hno : ∀ q ∈ p.2.batch.puts, r.range.has (hashS q.stream) = false := fun q hq => by
       have := hh.warm q hq fx (by rw [hfl]; simp)
       cases hq : r.range.has (hashS q.stream) with
       | false => rfl
       | true => rw [has_iff] at hq; rw [has_iff.2 (by omega)] at this; cases this
      refine hh.of (fun q hq => ?_) (fun q hq => ?_) (fun q hq f hf => hh.warm q hq f (hsub f hf))
      ·simp only [version_ev]
       rw [(drop_ev hO r.range q.stream).1, if_neg (by unfold inR; rw [hno q hq]; simp), like_ev hL]
      ·have := hh.serves q hq
       rw [serves_iff h.ring] at this
       rw [serves_iff hs]
       obtain ⟨y, hy, y1, y2⟩ := this
       refine ⟨y, ?_, y1, y2⟩
       show y ∈ (setR s.ring r.range).1
       rw [he]
       rw [hl] at hy
       rcases List.mem_append.1 hy with hy | hy
       ·simp [hy]
       ·rcases List.mem_cons.1 hy with rfl | hy
        ·have := hno q hq
         rw [has_iff] at y1
         rw [has_iff.2 (by omega)] at this; cases this
        ·simp [hy]
     ·obtain ⟨a1, a2, a3⟩ := h.frozen f (hsub f hf)
      refine ⟨?_, a2, a3⟩
      show f.range ∈ (setR s.ring r.range).1
      rw [he]
      rw [hl] at a1
      rcases List.mem_append.1 a1 with hy | hy
      ·simp [hy]
      ·rcases List.mem_cons.1 hy with e | hy
       ·exfalso
        rcases List.mem_append.1 hf with hf | hf
        ·exact n3 f.range (List.mem_map.2 ⟨f, hf, rfl⟩) fx.range (by simp) (by rw [e, hfe])
        ·exact n2.1 (List.mem_map.2 ⟨f, hf, by rw [e, hfe]⟩)
       ·simp [hy]
     ·show ((fa ++ fb).map Rec.range).Nodup
      rw [List.map_append, List.nodup_append]
      exact ⟨n1, n2.2, fun x hx y hy => n3 x hx y (by simp [hy])⟩
theorem apply_inv {s : St} {N : Nat} {r : Rec} (h : Inv s N) (hN : N ≤ 1000000) : Inv (applyS s r).1 (N + costR r) := by
 unfold applyS
 split
 ·exact h.mono (by omega)
 ·rename_i hc
  simp only [Decidable.not_not] at hc
  have hk := checkR_kind hc
  have e : costR r = sumD r.batch.puts + streamsD r.streams := rfl
  unfold doS
  split
  ·unfold lifeS; split
   ·exact h.mono (by omega)
   ·exact Inv.mono (Inv.same (s := s) h rfl rfl rfl rfl rfl rfl rfl) (by omega)
  split
  ·unfold ceilS; split
   ·exact h.mono (by omega)
   ·exact Inv.mono (Inv.same (s := s) h rfl rfl rfl rfl rfl rfl rfl) (by omega)
  split
  ·rename_i k; exact (commit_inv h hN (checkR_batch hc (.inl k)).2).mono (by omega)
  split
  ·exact (prepare_inv h).mono (by omega)
  split
  ·rename_i k; exact (decide_inv h hN (checkR_stamp hc (.inl k))).mono (by omega)
  split
  ·exact (outcome_inv h).mono (by omega)
  split
  ·exact (forget_inv h).mono (by omega)
  split
  ·exact (split_inv h).mono (by omega)
  split
  ·exact (freeze_inv h).mono (by omega)
  split
  ·rename_i k; exact (install_inv h (checkR_span hc (.inr (.inl k))).1).mono (by omega)
  ·exact (release_inv h).mono (by omega)
open Go.RowKit
theorem tx_equal (a b : Tx) (w : World) : (Op.equal 34 (txE a) (txE b)).run Tryz.prog w = .ok (decide (a = b)) w := by
 have e : decide (a = b) = (a.node == b.node && (a.life == b.life && a.num == b.num)) := by
  obtain ⟨a1, a2, a3⟩ := a
  obtain ⟨b1, b2, b3⟩ := b
  rw [Bool.eq_iff_iff]
  simp
 rw [e]
 unfold txE
 have h1 : Tryz.prog.underlying 34 = some (.struct (Tryz.prog.fieldsOf 34)) := by kernel_rfl
 have h2 := Tryz.underlying3
 rw [show Op.equal 34 (.agg #[.int .i64 a.node, .int .i64 a.life, .int .i64 a.num]) (.agg #[.int .i64 b.node, .int .i64 b.life, .int .i64 b.num]) = Op.equalIn (9999 + 1) 34 (.agg #[.int .i64 a.node, .int .i64 a.life, .int .i64 a.num]) (.agg #[.int .i64 b.node, .int .i64 b.life, .int .i64 b.num]) from rfl,
  run_equalIn_agg w 9999 34 _ _ h1 Tryz.stoodInHeld34]
 have h3 : Tryz.prog.fieldsOf 34 = (match Tryz.prog.underlying 34 with | some (.struct fs) => fs | _ => #[]) := by kernel_rfl
 rw [h3, Tryz.underlying34]
 simp only [Op.eqFields]
 simp [go_sem, Tryz.isAgg3, Sem.run_bind, Sem.run_ite, run_equalIn_int _ 9998 3 .i64 .i64 _ _ h2, Result.andThen]
 by_cases c1 : a.node = b.node <;> by_cases c2 : a.life = b.life <;> by_cases c3 : a.num = b.num <;> simp [c1, c2, c3]
theorem tx_find (k : Tx) (w : World) : ∀ (es : List MapEntry) (ps : List (Tx × Value)) (i : Nat), es.map (fun e => (e.key, e.val)) = ps.map (fun p => (txE p.1, p.2)) → (Instr.findAsking 34 (txE k) es i).run Tryz.prog w = .ok (assocAt k ps i) w
 | [], ps, i, h => by
   cases ps with
   | nil => rfl
   | cons p ps => simp at h
 | e :: es, ps, i, h => by
   cases ps with
   | nil => simp at h
   | cons p ps =>
     simp only [List.map_cons, List.cons.injEq, Prod.mk.injEq] at h
     obtain ⟨⟨h1, h2⟩, h3⟩ := h
     unfold Instr.findAsking
     rw [Sem.run_bind, h1, tx_equal, Result.andThen_ok]
     unfold assocAt
     by_cases hk : k = p.1
     ·rw [decide_eq_true hk, if_pos rfl, if_pos hk, h2]; rfl
     ·rw [decide_eq_false hk, if_neg (by simp), if_neg hk]
      exact tx_find k w es ps (i + 1) h3
theorem tx_key : KeyOk Tryz.prog 34 txE where
 check b k w := by
  rw [show (10000 : Nat) = 9999 + 1 from rfl, Instr.checkKey]
  have h3 : Tryz.prog.underlying 34 = some (.struct (match Tryz.prog.underlying 34 with | some (.struct fs) => fs | _ => #[])) := by kernel_rfl
  unfold txE
  simp [run_underlying Tryz.underlying34, go_sem, Tryz.isAgg3, Sem.run_bind, Result.andThen]
  have hc : ∀ n, (Instr.checkKey b 9999 3 (.int .i64 n)).run Tryz.prog w = .ok () w := fun n => by
   rw [show (9999 : Nat) = 9998 + 1 from rfl, Instr.checkKey]
   simp [run_underlying Tryz.underlying3]
  simp [hc]
 find k es ps w he := by
  unfold Instr.findKey
  rw [Sem.run_bind, run_underlying Tryz.underlying34, Result.andThen_ok]
  cases es with
  | nil =>
    cases ps with
    | nil => rfl
    | cons p ps => simp at he
  | cons e es =>
    have hn : ∀ fs, Instr.findNow (.struct fs) (txE k) (e :: es) 0 = none := fun fs => by
     unfold Instr.findNow Instr.sameNow txE
     rfl
    rw [hn]
    exact tx_find k w _ ps 0 he
 stays k w := by
  have h : ∀ n, Instr.sameBits (n + 2) (txE k) (txE k) = true := fun n => by
   unfold txE
   simp [Instr.sameBits]
  have h' : Instr.sameBits 10000 (txE k) (txE k) = true := h 9998
  simp [Instr.keyThatStays, h']
def MapV (w : World) (v : Value) (ps : List (Tx × Value)) : Prop := (v = .map none ∧ ps = []) ∨ ∃ m, v = .map (some m) ∧ MapAt txE w m ps
theorem MapV.ext {w w' : World} {v : Value} {ps : List (Tx × Value)} (h : MapV w v ps) (hb : Below w.heap.size w w') : MapV w' v ps := by
 rcases h with h | ⟨m, e, h⟩
 ·exact .inl h
 ·exact .inr ⟨m, e, h.ext hb⟩
def GotMap (w : World) (ps : List (Tx × Value)) (e : Ending) (w' : World) : Prop := ∃ m, e = .returned (.map (some m)) ∧ w.heap.size ≤ m ∧ MapAt txE w' m ps
theorem cloneH_at (m : Nat) (ps : List (Tx × Value)) (w : World) (h : MapAt txE w m ps) : Calls Tryz.prog 228 #[.map (some m)] w fun e w' => e = .returned (.map (some w.heap.size)) ∧ MapAt txE w' w.heap.size ps ∧ Below w.heap.size w w' := by
 obtain ⟨es, clk, h1, h2, h3, h4⟩ := h
 refine (AnyW.maps_Clone Tryz.cloneH m es clk w h1).mono ?_
 rintro e w' ⟨rfl, rfl⟩
 exact ⟨rfl, ⟨es, clk, heap_alloc_new w _, h2, h3, h4⟩, (jb _ _).al _⟩
theorem cloneH_nil (w : World) : Calls Tryz.prog 228 #[.map none] w fun e w' => e = .returned (.map none) ∧ w' = w := AnyW.maps_Clone_nil Tryz.cloneH w
theorem cloneI_at (m : Nat) (ps : List (Tx × Value)) (w : World) (h : MapAt txE w m ps) : Calls Tryz.prog 229 #[.map (some m)] w fun e w' => e = .returned (.map (some w.heap.size)) ∧ MapAt txE w' w.heap.size ps ∧ Below w.heap.size w w' := by
 obtain ⟨es, clk, h1, h2, h3, h4⟩ := h
 refine (AnyW.maps_Clone Tryz.cloneI m es clk w h1).mono ?_
 rintro e w' ⟨rfl, rfl⟩
 exact ⟨rfl, ⟨es, clk, heap_alloc_new w _, h2, h3, h4⟩, (jb _ _).al _⟩
theorem cloneI_nil (w : World) : Calls Tryz.prog 229 #[.map none] w fun e w' => e = .returned (.map none) ∧ w' = w := AnyW.maps_Clone_nil Tryz.cloneI w
theorem cloneO_at (m : Nat) (ps : List (Tx × Value)) (w : World) (h : MapAt txE w m ps) : Calls Tryz.prog 231 #[.map (some m)] w fun e w' => e = .returned (.map (some w.heap.size)) ∧ MapAt txE w' w.heap.size ps ∧ Below w.heap.size w w' := by
 obtain ⟨es, clk, h1, h2, h3, h4⟩ := h
 refine (AnyW.maps_Clone Tryz.cloneO m es clk w h1).mono ?_
 rintro e w' ⟨rfl, rfl⟩
 exact ⟨rfl, ⟨es, clk, heap_alloc_new w _, h2, h3, h4⟩, (jb _ _).al _⟩
theorem cloneO_nil (w : World) : Calls Tryz.prog 231 #[.map none] w fun e w' => e = .returned (.map none) ∧ w' = w := AnyW.maps_Clone_nil Tryz.cloneO w
theorem MapAt.new' {κ : Type} {enc : κ → Value} (X : World) (m : Nat) (h : m = X.heap.size) : MapAt enc (X.alloc (.map #[] 0)) m ([] : List (κ × Value)) := by subst h; exact MapAt.new X
set_option maxRecDepth 20000 in
set_option maxHeartbeats 1600000 in
theorem withH_any (v : Value) (ps : List (Tx × Value)) (t : Tx) (a0 a1 a2 b0 b1 b2 : Int) (k : Str) (pA fA : Option Addr) (pl pc fl fc : Nat) (w : World) (hv : MapV w v ps) : Calls Tryz.prog 147 #[v, txE t, .agg #[.int .i64 a0, .int .i64 a1, .int .i64 a2, .string k, .slice pA pl pc, .int .i64 b0, .int .i64 b1, .int .i64 b2, .slice fA fl fc]] w fun e w' => GotMap w (assocPut t (.agg #[.int .i64 a0, .int .i64 a1, .int .i64 a2, .string k, .slice pA pl pc, .int .i64 b0, .int .i64 b1, .int .i64 b2, .slice fA fl fc]) ps) e w' ∧ Below w.heap.size w w' := by
 have hmm := @run_makeMap Tryz.prog
 have hqn := fun w => run_eql_map_nil_sl (P := Tryz.prog) w 137 _ _ none Tryz.underlying137
 have hqs := fun (m : Nat) w => run_eql_map_nil_sl (P := Tryz.prog) w 137 _ _ (some m) Tryz.underlying137
 have CN := cloneH_nil
 have CA := cloneH_at
 unfold txE
 rcases hv with ⟨rfl, rfl⟩ | ⟨m, rfl, hM⟩
 ·go_enter Tryz.func147, Tryz.ntmps147
  go_wp2_with fail
  refine (CN _).mono ?_
  rintro e w' ⟨rfl, rfl⟩
  go_wp2_with (first
   | (at_mapUpdate; refine wpList_mapUpdate_map tx_key rfl rfl (.tmp 13) (.tmp 14) (.tmp 15) 137 rfl Tryz.underlying137 rfl (MapAt.new' _ _ (by simp)) t rfl _ rfl ?_; intro w4 hM4 hO4)
   | fail)
  go_ret
  refine ⟨⟨_, rfl, by omega, hM4⟩, ?_⟩
  refine Below.trans ?_ (hO4.low (fun g hg => by rw [hg]; omega) (by simp; omega))
  repeat (with_reducible first | assumption | exact jb _ _ | refine Below.al ?_ _ | refine Below.drew ?_ | apply Below.st1)
 ·have hml := hM.lt
  have B0 := (Blk.new w 34 [.int .i64 t.node, .int .i64 t.life, .int .i64 t.num]).alloc (.cells #[.int .i64 a0, .int .i64 a1, .int .i64 a2, .string k, .slice pA pl pc, .int .i64 b0, .int .i64 b1, .int .i64 b2, .slice fA fl fc] 162)
  have B1 := Blk.new1 w (.cells #[.int .i64 t.node, .int .i64 t.life, .int .i64 t.num] 34) 162 [.int .i64 a0, .int .i64 a1, .int .i64 a2, .string k, .slice pA pl pc, .int .i64 b0, .int .i64 b1, .int .i64 b2, .slice fA fl fc]
  go_enter Tryz.func147, Tryz.ntmps147
  go_wp2_with fail
  refine (CA m ps _ (hM.ext (by repeat (with_reducible first | assumption | exact jb _ _ | refine Below.al ?_ _ | refine Below.drew ?_ | apply Below.st1)))).mono ?_
  rintro e w' ⟨rfl, hM2, hb2⟩
  have hM2 : MapAt txE w' (w.heap.size + 1 + 1) ps := by simpa using hM2
  have B0 := B0.ext hb2
  have B1 := B1.ext hb2
  have hw2 := Below.tr (a := w) (by repeat (with_reducible first | assumption | exact jb _ _ | refine Below.al ?_ _ | refine Below.drew ?_ | apply Below.st1)) hb2
  have hz2 := hb2.size
  go_wp2_with (first
   | ((with_reducible refine wpList_load_blk rfl rfl ?_ B0 Tryz.underlying34 rfl (by kernel_rfl) ?_); · rfl)
   | ((with_reducible refine wpList_load_blk rfl rfl ?_ B1 Tryz.underlying162 rfl (by kernel_rfl) ?_); · rfl)
   | (at_mapUpdate; refine wpList_mapUpdate_map tx_key rfl rfl (.tmp 13) (.tmp 14) (.tmp 15) 137 rfl Tryz.underlying137 rfl hM2 t rfl _ rfl ?_; intro w4 hM4 hO4)
   | fail)
  go_ret
  exact ⟨⟨_, rfl, by omega, hM4⟩, hw2.trans (hO4.low (fun g hg => by rw [hg]; omega) hw2.size)⟩
set_option maxRecDepth 20000 in
set_option maxHeartbeats 1600000 in
theorem withI_any (v : Value) (ps : List (Tx × Value)) (t : Tx) (a0 : Int) (w : World) (hv : MapV w v ps) : Calls Tryz.prog 149 #[v, txE t, .int .i64 a0] w fun e w' => GotMap w (assocPut t (.int .i64 a0) ps) e w' ∧ Below w.heap.size w w' := by
 have hmm := @run_makeMap Tryz.prog
 have hqn := fun w => run_eql_map_nil_sl (P := Tryz.prog) w 139 _ _ none Tryz.underlying139
 have hqs := fun (m : Nat) w => run_eql_map_nil_sl (P := Tryz.prog) w 139 _ _ (some m) Tryz.underlying139
 have CN := cloneI_nil
 have CA := cloneI_at
 unfold txE
 rcases hv with ⟨rfl, rfl⟩ | ⟨m, rfl, hM⟩
 ·go_enter Tryz.func149, Tryz.ntmps149
  go_wp2_with fail
  refine (CN _).mono ?_
  rintro e w' ⟨rfl, rfl⟩
  go_wp2_with (first
   | (at_mapUpdate; refine wpList_mapUpdate_map tx_key rfl rfl (.tmp 13) (.tmp 14) (.tmp 15) 139 rfl Tryz.underlying139 rfl (MapAt.new' _ _ (by simp)) t rfl _ rfl ?_; intro w4 hM4 hO4)
   | fail)
  go_ret
  refine ⟨⟨_, rfl, by omega, hM4⟩, ?_⟩
  refine Below.trans ?_ (hO4.low (fun g hg => by rw [hg]; omega) (by simp; omega))
  repeat (with_reducible first | assumption | exact jb _ _ | refine Below.al ?_ _ | refine Below.drew ?_ | apply Below.st1)
 ·have hml := hM.lt
  have B0 := Blk.new w 34 [.int .i64 t.node, .int .i64 t.life, .int .i64 t.num]
  go_enter Tryz.func149, Tryz.ntmps149
  go_wp2_with fail
  refine (CA m ps _ (hM.ext (by repeat (with_reducible first | assumption | exact jb _ _ | refine Below.al ?_ _ | refine Below.drew ?_ | apply Below.st1)))).mono ?_
  rintro e w' ⟨rfl, hM2, hb2⟩
  have hM2 : MapAt txE w' (w.heap.size + 1) ps := by simpa using hM2
  have B0 := B0.ext hb2
  have hw2 := Below.tr (a := w) (by repeat (with_reducible first | assumption | exact jb _ _ | refine Below.al ?_ _ | refine Below.drew ?_ | apply Below.st1)) hb2
  have hz2 := hb2.size
  go_wp2_with (first
   | ((with_reducible refine wpList_load_blk rfl rfl ?_ B0 Tryz.underlying34 rfl (by kernel_rfl) ?_); · rfl)
   | (at_mapUpdate; refine wpList_mapUpdate_map tx_key rfl rfl (.tmp 13) (.tmp 14) (.tmp 15) 139 rfl Tryz.underlying139 rfl hM2 t rfl _ rfl ?_; intro w4 hM4 hO4)
   | fail)
  go_ret
  exact ⟨⟨_, rfl, by omega, hM4⟩, hw2.trans (hO4.low (fun g hg => by rw [hg]; omega) hw2.size)⟩
set_option maxRecDepth 20000 in
set_option maxHeartbeats 1600000 in
theorem withO_any (v : Value) (ps : List (Tx × Value)) (t : Tx) (a0 a1 a2 b0 b1 b2 : Int) (y : Bool) (fA : Option Addr) (fl fc : Nat) (w : World) (hv : MapV w v ps) : Calls Tryz.prog 152 #[v, txE t, .agg #[.int .i64 a0, .int .i64 a1, .int .i64 a2, .bool y, .int .i64 b0, .int .i64 b1, .int .i64 b2, .slice fA fl fc]] w fun e w' => GotMap w (assocPut t (.agg #[.int .i64 a0, .int .i64 a1, .int .i64 a2, .bool y, .int .i64 b0, .int .i64 b1, .int .i64 b2, .slice fA fl fc]) ps) e w' ∧ Below w.heap.size w w' := by
 have hmm := @run_makeMap Tryz.prog
 have hqn := fun w => run_eql_map_nil_sl (P := Tryz.prog) w 138 _ _ none Tryz.underlying138
 have hqs := fun (m : Nat) w => run_eql_map_nil_sl (P := Tryz.prog) w 138 _ _ (some m) Tryz.underlying138
 have CN := cloneO_nil
 have CA := cloneO_at
 unfold txE
 rcases hv with ⟨rfl, rfl⟩ | ⟨m, rfl, hM⟩
 ·go_enter Tryz.func152, Tryz.ntmps152
  go_wp2_with fail
  refine (CN _).mono ?_
  rintro e w' ⟨rfl, rfl⟩
  go_wp2_with (first
   | (at_mapUpdate; refine wpList_mapUpdate_map tx_key rfl rfl (.tmp 13) (.tmp 14) (.tmp 15) 138 rfl Tryz.underlying138 rfl (MapAt.new' _ _ (by simp)) t rfl _ rfl ?_; intro w4 hM4 hO4)
   | fail)
  go_ret
  refine ⟨⟨_, rfl, by omega, hM4⟩, ?_⟩
  refine Below.trans ?_ (hO4.low (fun g hg => by rw [hg]; omega) (by simp; omega))
  repeat (with_reducible first | assumption | exact jb _ _ | refine Below.al ?_ _ | refine Below.drew ?_ | apply Below.st1)
 ·have hml := hM.lt
  have B0 := (Blk.new w 34 [.int .i64 t.node, .int .i64 t.life, .int .i64 t.num]).alloc (.cells #[.int .i64 a0, .int .i64 a1, .int .i64 a2, .bool y, .int .i64 b0, .int .i64 b1, .int .i64 b2, .slice fA fl fc] 178)
  have B1 := Blk.new1 w (.cells #[.int .i64 t.node, .int .i64 t.life, .int .i64 t.num] 34) 178 [.int .i64 a0, .int .i64 a1, .int .i64 a2, .bool y, .int .i64 b0, .int .i64 b1, .int .i64 b2, .slice fA fl fc]
  go_enter Tryz.func152, Tryz.ntmps152
  go_wp2_with fail
  refine (CA m ps _ (hM.ext (by repeat (with_reducible first | assumption | exact jb _ _ | refine Below.al ?_ _ | refine Below.drew ?_ | apply Below.st1)))).mono ?_
  rintro e w' ⟨rfl, hM2, hb2⟩
  have hM2 : MapAt txE w' (w.heap.size + 1 + 1) ps := by simpa using hM2
  have B0 := B0.ext hb2
  have B1 := B1.ext hb2
  have hw2 := Below.tr (a := w) (by repeat (with_reducible first | assumption | exact jb _ _ | refine Below.al ?_ _ | refine Below.drew ?_ | apply Below.st1)) hb2
  have hz2 := hb2.size
  go_wp2_with (first
   | ((with_reducible refine wpList_load_blk rfl rfl ?_ B0 Tryz.underlying34 rfl (by kernel_rfl) ?_); · rfl)
   | ((with_reducible refine wpList_load_blk rfl rfl ?_ B1 Tryz.underlying178 rfl (by kernel_rfl) ?_); · rfl)
   | (at_mapUpdate; refine wpList_mapUpdate_map tx_key rfl rfl (.tmp 13) (.tmp 14) (.tmp 15) 138 rfl Tryz.underlying138 rfl hM2 t rfl _ rfl ?_; intro w4 hM4 hO4)
   | fail)
  go_ret
  exact ⟨⟨_, rfl, by omega, hM4⟩, hw2.trans (hO4.low (fun g hg => by rw [hg]; omega) hw2.size)⟩
set_option maxRecDepth 20000 in
set_option maxHeartbeats 1600000 in
theorem withoutH_any (m : Nat) (ps : List (Tx × Value)) (t : Tx) (w : World) (hM : MapAt txE w m ps) : Calls Tryz.prog 148 #[.map (some m), txE t] w fun e w' => GotMap w (assocDel t ps) e w' ∧ Below w.heap.size w w' := by
 have CA := cloneH_at
 unfold txE
 have B0 := Blk.new w 34 [.int .i64 t.node, .int .i64 t.life, .int .i64 t.num]
 go_enter Tryz.func148, Tryz.ntmps148
 go_wp2_with fail
 refine (CA m ps _ (hM.ext (by repeat (with_reducible first | assumption | exact jb _ _ | refine Below.al ?_ _ | refine Below.drew ?_ | apply Below.st1)))).mono ?_
 rintro e w' ⟨rfl, hM2, hb2⟩
 have hM2 : MapAt txE w' (w.heap.size + 1) ps := by simpa using hM2
 have B0 := B0.ext hb2
 have hw2 := Below.tr (a := w) (by repeat (with_reducible first | assumption | exact jb _ _ | refine Below.al ?_ _ | refine Below.drew ?_ | apply Below.st1)) hb2
 have hz2 := hb2.size
 go_wp2_with (first
  | ((with_reducible refine wpList_load_blk rfl rfl ?_ B0 Tryz.underlying34 rfl (by kernel_rfl) ?_); · rfl)
  | (at_delete; go_loud (refine wpList_delete_map tx_key rfl (.tmp 8) (.tmp 9) 137 rfl Tryz.underlying137 rfl hM2 t rfl ?_); intro w4 hM4 hO4)
  | fail)
 go_ret
 exact ⟨⟨_, rfl, by omega, hM4⟩, hw2.trans (hO4.low (fun g hg => by rw [hg]; omega) hw2.size)⟩
set_option maxRecDepth 20000 in
set_option maxHeartbeats 1600000 in
theorem withoutO_any (m : Nat) (ps : List (Tx × Value)) (t : Tx) (w : World) (hM : MapAt txE w m ps) : Calls Tryz.prog 153 #[.map (some m), txE t] w fun e w' => GotMap w (assocDel t ps) e w' ∧ Below w.heap.size w w' := by
 have CA := cloneO_at
 unfold txE
 have B0 := Blk.new w 34 [.int .i64 t.node, .int .i64 t.life, .int .i64 t.num]
 go_enter Tryz.func153, Tryz.ntmps153
 go_wp2_with fail
 refine (CA m ps _ (hM.ext (by repeat (with_reducible first | assumption | exact jb _ _ | refine Below.al ?_ _ | refine Below.drew ?_ | apply Below.st1)))).mono ?_
 rintro e w' ⟨rfl, hM2, hb2⟩
 have hM2 : MapAt txE w' (w.heap.size + 1) ps := by simpa using hM2
 have B0 := B0.ext hb2
 have hw2 := Below.tr (a := w) (by repeat (with_reducible first | assumption | exact jb _ _ | refine Below.al ?_ _ | refine Below.drew ?_ | apply Below.st1)) hb2
 have hz2 := hb2.size
 go_wp2_with (first
  | ((with_reducible refine wpList_load_blk rfl rfl ?_ B0 Tryz.underlying34 rfl (by kernel_rfl) ?_); · rfl)
  | (at_delete; go_loud (refine wpList_delete_map tx_key rfl (.tmp 8) (.tmp 9) 138 rfl Tryz.underlying138 rfl hM2 t rfl ?_); intro w4 hM4 hO4)
  | fail)
 go_ret
 exact ⟨⟨_, rfl, by omega, hM4⟩, hw2.trans (hO4.low (fun g hg => by rw [hg]; omega) hw2.size)⟩
end Go.Proofs.YtpgocpodhamibaaGreatDoor
