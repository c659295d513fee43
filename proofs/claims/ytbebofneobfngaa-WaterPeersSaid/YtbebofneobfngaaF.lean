/- A feed is taken in: it is. -/
import Derived.Test.YtbebofneobfngaaE
import Derived.Test.YtbebofneobfngaaR
namespace Go.Proofs.Ytbebofneobfngaa
open Go.RowKit
attribute [local go_sem] St.cells St.val Peer.cells headC

theorem ev_info : (Try.prog.info? 41).map (fun i => (i.zero, i.size, i.bytes)) = some (some (.agg #[.string ⟨#[]⟩, .int .i64 0, .string ⟨#[]⟩, .int .i64 0, .int .i64 0, .int .i64 0, .int .i64 0]), 7, 72) := by kernel_rfl

theorem flat_set (l : List Peer) (k j : Nat) (p p' : Peer) (u : Value) (h : l[k]? = some p) (hj : j < 4) (he : p'.cells = p.cells.set j u) : (l.flatMap Peer.cells).set (k * 4 + j) u = (l.set k p').flatMap Peer.cells := by
  induction l generalizing k with
  | nil => simp at h
  | cons q l ih =>
    rw [List.flatMap_cons]
    cases k with
    | zero =>
      simp at h; subst h
      rw [List.set_append_left _ _ (by simp [Peer.cells]; omega), List.set_cons_zero, List.flatMap_cons, he]; simp
    | succ k =>
      simp only [List.getElem?_cons_succ] at h
      rw [List.set_append_right _ _ (by simp [Peer.cells]; omega), List.set_cons_succ, List.flatMap_cons, ← ih k h]
      congr 2
      simp [Peer.cells]; omega

def Tab.put (T : Tab) (k : Nat) (p : Peer) : Tab := ⟨T.self, T.ps.set k p⟩

theorem Tab.put_put (T : Tab) (k : Nat) (p q : Peer) : (T.put k p).put k q = T.put k q := by simp [Tab.put]

theorem TabAt.grow {W w1 : World} {base tb pb k : Nat} {T : Tab} {p : Peer} {v1 : Value} {n1 : Nat} {zs : List Value} (h : TabAt W base tb pb T) (hp : T.ps[k]? = some p) (hn1 : n1 ≤ 1000000)
    (hown : w1.ownsRow base 41 7 v1 n1 zs) (hz : ∀ u ∈ zs, u.oneCell' = true) (hg : W.grownBy w1 p.ev.ownBlock) (hat : v1.ownBlock = p.ev.ownBlock ∨ v1.ownBlock = some W.heap.size) :
    TabAt (w1.setCell ⟨pb, k * 4, none⟩ v1) base tb pb (T.put k ⟨v1, n1, p.mark⟩) := by
  obtain ⟨_, xs, hx, _⟩ := h.evs k p hp
  have hk : k < T.ps.length := (List.getElem?_eq_some_iff.1 hp).1
  have n1' := own_blk_ne hx h.head (by decide)
  have n2' := own_blk_ne hx h.row (by decide)
  have hh1 : Blk w1 tb 52 _ := h.head.grown hg (Ne.symm n1')
  have hr1 : Blk w1 pb 56 _ := h.row.grown hg (Ne.symm n2')
  have hne : tb ≠ pb := hh1.ne_ hr1 (by decide)
  have hpb : ∀ g cur, w1.heap[g]? = some (.cells cur 41 (0, 0)) → g ≠ pb := by
    intro g cur hgg he
    subst he
    unfold Blk at hr1
    rw [hgg] at hr1
    simp at hr1
  have keep : ∀ v n xs, w1.ownsRow base 41 7 v n xs → (w1.setCell ⟨pb, k * 4, none⟩ v1).ownsRow base 41 7 v n xs := by
    intro v n xs ho
    refine ⟨ho.1, ?_⟩
    rcases ho.2 with hn | ⟨g, cap, cur, hv, hbg, hgg, rest⟩
    · exact .inl hn
    · exact .inr ⟨g, cap, cur, hv, hbg, by rw [Below.heap_setCell _ _ _ _ (hpb g cur hgg)]; exact hgg, rest⟩
  refine ⟨?_, ?_, h.b1, h.b2, by simpa [Tab.put] using h.few, ?_, ?_⟩
  · have := hh1.far (p := ⟨pb, k * 4, none⟩) hne v1
    simpa [Tab.put] using this
  · refine (hr1.set_ (k * 4) v1).to ?_
    exact flat_set T.ps k 0 p ⟨v1, n1, p.mark⟩ v1 hp (by omega) rfl
  · intro i q hq
    simp only [Tab.put] at hq
    by_cases hik : i = k
    · subst hik
      rw [List.getElem?_set_self hk] at hq
      cases hq
      exact ⟨hn1, zs, keep _ _ _ hown, hz⟩
    · rw [List.getElem?_set_ne (Ne.symm hik)] at hq
      obtain ⟨h0, ys, hy, h1⟩ := h.evs i q hq
      exact ⟨h0, ys, keep _ _ _ (hy.kept hg (h.apart i k q p hik hq hp)), h1⟩
  · intro i j q r hij hq hr
    simp only [Tab.put] at hq hr
    have old : ∀ (m : Nat) (s : Peer), T.ps[m]? = some s → s.ev.ownBlock ≠ some W.heap.size := by
      intro m s hs he
      obtain ⟨_, ys, hy, _⟩ := h.evs m s hs
      have := (hy.lt _ he).2
      omega
    by_cases hik : i = k
    · subst hik
      rw [List.getElem?_set_self hk] at hq
      rw [List.getElem?_set_ne hij] at hr
      cases hq
      rcases hat with e | e
      · simp only [e]; exact h.apart i j p r hij hp hr
      · simp only [e]; exact .inr (fun hh => old j r hr hh.symm)
    · rw [List.getElem?_set_ne (Ne.symm hik)] at hq
      by_cases hjk : j = k
      · subst hjk
        rw [List.getElem?_set_self hk] at hr
        cases hr
        rcases hat with e | e
        · simp only [e]; exact h.apart i j q p hij hq hp
        · simp only [e]; exact .inr (old i q hq)
      · rw [List.getElem?_set_ne (Ne.symm hjk)] at hr
        exact h.apart i j q r hij hq hr

theorem TabAt.mark {w : World} {base tb pb k : Nat} {T : Tab} {p : Peer} {m : St} (h : TabAt w base tb pb T) (hp : T.ps[k]? = some p) :
    TabAt (((w.setCell ⟨pb, k * 4 + 1, none⟩ (.int .i64 m.wall)).setCell ⟨pb, k * 4 + 1 + 1, none⟩ (.int .i64 m.logic)).setCell ⟨pb, k * 4 + 1 + 2, none⟩ (.int .i64 m.node)) base tb pb (T.put k ⟨p.ev, p.n, m⟩) := by
  have hk : k < T.ps.length := (List.getElem?_eq_some_iff.1 hp).1
  have hne : tb ≠ pb := h.head.ne_ h.row (by decide)
  have hpb : ∀ g cur, w.heap[g]? = some (.cells cur 41 (0, 0)) → g ≠ pb := by
    intro g cur hgg he
    subst he
    have hr1 := h.row
    unfold Blk at hr1
    rw [hgg] at hr1
    simp at hr1
  refine ⟨?_, ?_, h.b1, h.b2, by simpa [Tab.put] using h.few, ?_, ?_⟩
  · have := ((h.head.far (p := ⟨pb, k * 4 + 1, none⟩) hne (.int .i64 m.wall)).far (p := ⟨pb, k * 4 + 1 + 1, none⟩) hne (.int .i64 m.logic)).far (p := ⟨pb, k * 4 + 1 + 2, none⟩) hne (.int .i64 m.node)
    simpa [Tab.put] using this
  · refine (((h.row.set_ (k * 4 + 1) _).set_ (k * 4 + 1 + 1) _).set_ (k * 4 + 1 + 2) _).to ?_
    rw [flat_set T.ps k 1 p ⟨p.ev, p.n, ⟨m.wall, p.mark.logic, p.mark.node⟩⟩ _ hp (by omega) rfl,
      show k * 4 + 1 + 1 = k * 4 + 2 from rfl, flat_set _ k 2 ⟨p.ev, p.n, ⟨m.wall, p.mark.logic, p.mark.node⟩⟩ ⟨p.ev, p.n, ⟨m.wall, m.logic, p.mark.node⟩⟩ _ (by rw [List.getElem?_set_self hk]) (by omega) rfl,
      show k * 4 + 1 + 2 = k * 4 + 3 from rfl, flat_set _ k 3 ⟨p.ev, p.n, ⟨m.wall, m.logic, p.mark.node⟩⟩ ⟨p.ev, p.n, m⟩ _ (by rw [List.getElem?_set_self (by simpa using hk)]) (by omega) rfl]
    simp [Tab.put]
  · intro i q hq
    simp only [Tab.put] at hq
    have keep : ∀ v n xs, w.ownsRow base 41 7 v n xs → (((w.setCell ⟨pb, k * 4 + 1, none⟩ (.int .i64 m.wall)).setCell ⟨pb, k * 4 + 1 + 1, none⟩ (.int .i64 m.logic)).setCell ⟨pb, k * 4 + 1 + 2, none⟩ (.int .i64 m.node)).ownsRow base 41 7 v n xs := by
      intro v n xs ho
      refine ⟨ho.1, ?_⟩
      rcases ho.2 with hn | ⟨g, cap, cur, hv, hbg, hgg, rest⟩
      · exact .inl hn
      · have hq := hpb g cur hgg
        exact .inr ⟨g, cap, cur, hv, hbg, by rw [Below.heap_setCell _ _ _ _ hq, Below.heap_setCell _ _ _ _ hq, Below.heap_setCell _ _ _ _ hq]; exact hgg, rest⟩
    by_cases hik : i = k
    · subst hik
      rw [List.getElem?_set_self hk] at hq
      cases hq
      obtain ⟨h0, ys, hy, h1⟩ := h.evs i p hp
      exact ⟨h0, ys, keep _ _ _ hy, h1⟩
    · rw [List.getElem?_set_ne (Ne.symm hik)] at hq
      obtain ⟨h0, ys, hy, h1⟩ := h.evs i q hq
      exact ⟨h0, ys, keep _ _ _ hy, h1⟩
  · intro i j q r hij hq hr
    simp only [Tab.put] at hq hr
    have ev : ∀ (m' : Nat) (s : Peer), (T.ps.set k ⟨p.ev, p.n, m⟩)[m']? = some s → ∃ s' : Peer, T.ps[m']? = some s' ∧ s'.ev = s.ev := by
      intro m' s hs
      by_cases hmk : m' = k
      · subst hmk
        rw [List.getElem?_set_self hk] at hs
        cases hs
        exact ⟨p, hp, rfl⟩
      · rw [List.getElem?_set_ne (Ne.symm hmk)] at hs
        exact ⟨s, hs, rfl⟩
    obtain ⟨q', hq', e1⟩ := ev i q hq
    obtain ⟨r', hr', e2⟩ := ev j r hr
    rw [← e1, ← e2]
    exact h.apart i j q' r' hij hq' hr'

/-- What is neither a table's row nor a row of events stays. -/
def Keeps (w w' : World) : Prop := ∀ g t cs, t ≠ 56 → t ≠ 41 → Blk w g t cs → Blk w' g t cs
theorem Keeps.refl (w : World) : Keeps w w := fun _ _ _ _ _ h => h
theorem Keeps.trans {a b c : World} (h : Keeps a b) (k : Keeps b c) : Keeps a c := fun g t cs h1 h2 h3 => k g t cs h1 h2 (h g t cs h1 h2 h3)
theorem Keeps.of_below {w w' : World} (h : Below w.heap.size w w') : Keeps w w' := fun _ _ _ _ _ hb => hb.ext h
/-- The same, with every row of events but one. -/
def KeepsR (r : Option Nat) (w w' : World) : Prop := ∀ g t cs, t ≠ 56 → (t ≠ 41 ∨ r ≠ some g) → Blk w g t cs → Blk w' g t cs
theorem KeepsR.all {r : Option Nat} {w w' : World} (h : KeepsR r w w') : Keeps w w' := fun g t cs h1 h2 hb => h g t cs h1 (.inl h2) hb
theorem KeepsR.trans {r : Option Nat} {a b c : World} (h : KeepsR r a b) (k : KeepsR r b c) : KeepsR r a c := fun g t cs h1 h2 h3 => k g t cs h1 h2 (h g t cs h1 h2 h3)
theorem KeepsR.of_below {r : Option Nat} {w w' : World} (h : Below w.heap.size w w') : KeepsR r w w' := fun _ _ _ _ _ hb => hb.ext h
theorem KeepsR.of_grown {w w' : World} {base n : Nat} {v : Value} {xs : List Value} (ho : w.ownsRow base 41 7 v n xs) (hg : w.grownBy w' v.ownBlock) : KeepsR v.ownBlock w w' :=
  fun _ _ _ _ h2 hb => hb.grown hg (fun e => by
    rcases h2 with h2 | h2
    · exact own_blk_ne ho hb (Ne.symm h2) e.symm
    · exact h2 e.symm)
theorem KeepsR.of_set {r : Option Nat} {w : World} {pb o : Nat} {ds : List Value} (hp : Blk w pb 56 ds) (u : Value) : KeepsR r w (w.setCell ⟨pb, o, none⟩ u) :=
  fun _ _ _ h1 _ hb => hb.far (p := ⟨pb, o, none⟩) (hb.ne_ hp h1) u

theorem own_form {w : World} {base e size n : Nat} {v : Value} {xs : List Value} (h : w.ownsRow base e size v n xs) : ∃ A c, v = .slice A n c := by
  rcases h.2 with ⟨e1, e2⟩ | ⟨g, cap, cur, e1, _⟩
  · exact ⟨none, 0, by rw [e1, e2]⟩
  · exact ⟨_, _, e1⟩

/-- What the mark is behind a feed. -/
def markOf (p : Peer) (l : Nat) (to : Int) (m : St) : St := if (p.n : Int) + l = to then maxS p.mark m else p.mark
theorem markOf_yes {p : Peer} {l : Nat} {to : Int} {m : St} (h : (p.n : Int) + l = to) : markOf p l to m = maxS p.mark m := if_pos h
theorem markOf_no {p : Peer} {l : Nat} {to : Int} {m : St} (h : ¬ (p.n : Int) + l = to) : markOf p l to m = p.mark := if_neg h

/-- The world behind a feed that was taken in. -/
def Took (base tb pb : Nat) (T : Tab) (k n : Nat) (m : St) (r : Option Nat) (w w' : World) : Prop :=
  ∃ ev', TabAt w' base tb pb (T.put k ⟨ev', n, m⟩) ∧ Below base w w' ∧ KeepsR r w w' ∧ ∀ g, ev'.ownBlock = some g → r = some g ∨ w.heap.size ≤ g

set_option maxHeartbeats 3200000 in
theorem take_yes (base tb pb : Nat) (T : Tab) (k : Nat) (p : Peer) (A : Option Addr) (l c : Nat) (news : List Value) (to : Int) (m : St) (rv : Value) (w : World) (h : TabAt w base tb pb T) (hp : T.ps[k]? = some p) (ho : othB T k = true)
    (hr : Reads w w.heap.size 7 A l news) (h1 : ∀ u ∈ news, u.oneCell' = true) (hl : p.n + l ≤ 1000000) (hto : ¬ to < (p.n : Int) + l) (hbs : base ≤ w.heap.size) :
    Calls Try.prog 12 #[.pointer (some ⟨tb, 0, none⟩), .int .i64 k, feedVal p.n to (.slice A l c) m rv] w fun e w' => e = .returned (.bool true) ∧ Took base tb pb T k (p.n + l) (markOf p l to m) p.ev.ownBlock w w' := by
  obtain ⟨i0, hi0, hz0, hz1, hz2⟩ := info_parts ev_info
  have HO := Lib.hid ho; clear ho
  have hk : k < T.ps.length := (List.getElem?_eq_some_iff.1 hp).1
  have hk' : (k : Int) < T.ps.length := by omega
  have hd : Blk w tb 52 (headC T.self pb T.ps.length) := h.head
  obtain ⟨c0, c1, c2, c3⟩ := h.cells hp
  obtain ⟨hn, xs, hown, _⟩ := h.evs k p hp
  obtain ⟨A', c', hev⟩ := own_form hown
  have HEV := Lib.hid hev
  have hlt := h.row.lt
  have hto' : decide (to < IntKind.i64.wrap ((p.n : Int) + l)) = false := by rw [IntWalk.i64_in _ (by omega)]; simpa using hto
  rw [hev] at c0
  clear hev
  have n0 := World.new_ne w _ c0
  unfold feedVal
  go_enter Try.func12, Try.ntmps12
  go_wp2_with fail
  go_quiet (first
    | (go_at_call 17; exact other_q (by exact (hd.alloc _).drewN _) HO.out)
    | (go_at_call 11; exact next_q (A := A') (c := c') (by exact (hd.alloc _).drewN _) HO.out hk (by exact (World.cell?_alloc_lt _ _ _ hlt).trans c0)))
  have hdc := hd.cell
  have hdl := hd.lt
  clear hto'
  go_wp2_with fail
  refine wp_region_ht [0, 1, 2, 3, 4, 5, 6] [7, 8, 9, 10] (by kernel_rfl) (by kernel_rfl) (fun _ _ d _ _ h => by cases d <;> exact h) ?_
  simp only [pick, List.filterMap_cons, List.filterMap_nil, List.getElem?_cons_zero, List.getElem?_cons_succ]
  repeat still_step
  refine wpStill_nil ?_
  refine forget (M := fun W => wpList _ _ _ _ _ W) (fun W => Below w.heap.size w W ∧ Blk W w.heap.size 34 [.int .i64 p.n, .int .i64 to, .slice A l c, .int .i64 m.wall, .int .i64 m.logic, .int .i64 m.node, rv]) ⟨(below_drewN ((Below.refl _ _).al _) _).drew, ((Blk.new _ _ _).drewN _).drew⟩ ?_
  rintro W ⟨hbW, hxW⟩
  have hTW := h.ext hbW
  obtain ⟨d0, d1, d2, d3⟩ := hTW.cells hp
  obtain ⟨_, ys, hownW, hys⟩ := hTW.evs k p hp
  have hownW2 := hownW
  rw [HEV.out] at hownW
  refine wpList_append_any _ rfl (.tmp 41) (.tmp 43) _ rfl base 41 i0 _ 7 72 Try.underlying31 hi0 hz0 hz1 hz2 rfl (by omega) _ p.n ys rfl hownW w.heap.size A l c news rfl (hr.below hbW) h1 (by simp only [maxLen]; omega) (by omega) (by have := hbW.size; omega) ?_
  intro v1 w1 hown1 hg1 hat1
  rw [← HEV.out] at hg1 hat1
  obtain ⟨A1, e1, hv1⟩ := own_form hown1
  have hG := hTW.grow hp hl hown1 (fun u hu => (List.mem_append.1 hu).elim (hys u) (h1 u)) hg1 hat1
  have hK1 := (KeepsR.of_below hbW).trans (KeepsR.of_grown hownW2 hg1)
  have hR1 : Blk w1 pb 56 _ := hTW.row.grown hg1 (Ne.symm (own_blk_ne hownW2 hTW.row (by decide)))
  have hX1 : Blk w1 w.heap.size 34 _ := hxW.grown hg1 (Ne.symm (own_blk_ne hownW2 hxW (by decide)))
  have hB1 : Below base w w1 := (hbW.mono hbs).trans ((Below.refl _ _).grown hg1 (by have := hbW.size; omega) (fun g hg => (hownW2.lt g hg).1))
  have hK2 := hK1.trans (KeepsR.of_set (o := k * 4) hR1 v1)
  have hB2 : Below base w (w1.setCell ⟨pb, k * 4, none⟩ v1) := hB1.setCell h.b2 v1
  have hX2 : Blk (w1.setCell ⟨pb, k * 4, none⟩ v1) w.heap.size 34 _ := hX1.far (p := ⟨pb, k * 4, none⟩) (hX1.ne_ hR1 (by decide)) v1
  have f0 : w1.cell? ⟨pb, k * 4, none⟩ = some p.ev := (hR1.cell (k * 4)).trans (flat4 T.ps k p hp 0 (by omega))
  have f1 := hR1.frozen (k * 4)
  have hat2 : ∀ g, v1.ownBlock = some g → p.ev.ownBlock = some g ∨ w.heap.size ≤ g := by
    intro g hg
    rcases hat1 with e | e
    · exact .inl (e.symm.trans hg)
    · right; have h2 := e.symm.trans hg; injection h2 with h3; have := hbW.size; omega
  have HH := Lib.hid (And.intro hG (And.intro hK2 (And.intro hB2 hX2)))
  clear hG hK1 hK2 hB1 hB2 hX1 hX2 hR1 hown1 hg1 hat1 hTW hxW hbW hownW hownW2 d0 d1 d2 d3 n0 hdc
  subst hv1
  have HAT := Lib.hid hat2; clear hat2
  go_wp2_with fail
  have hpp : (T.put k ⟨.slice A1 (p.n + l) e1, p.n + l, p.mark⟩).ps[k]? = some ⟨.slice A1 (p.n + l) e1, p.n + l, p.mark⟩ := by simp [Tab.put, List.getElem?_set_self hk]
  refine forget (M := fun W => Code.wp _ _ _ _ W) (fun W => TabAt W base tb pb (T.put k ⟨.slice A1 (p.n + l) e1, p.n + l, p.mark⟩) ∧ KeepsR p.ev.ownBlock w W ∧ Below base w W ∧ Blk W w.heap.size 34 [.int .i64 p.n, .int .i64 to, .slice A l c, .int .i64 m.wall, .int .i64 m.logic, .int .i64 m.node, rv]) HH.out ?_
  clear HH
  rintro W2 ⟨hT2, hK2, hB2, hX2⟩
  obtain ⟨q0, q1, q2, q3⟩ := hT2.cells hpp
  have hXc := hX2.cell
  clear f0 f1 c0 c1 c2 c3
  by_cases hto2 : (p.n : Int) + l = to
  · have e2 : ((p.n : Int) + l == to) = true := by simp [hto2]
    have HE2 := Lib.hid hto2; clear hto2
    go_quiet (fail)
    go_wp2_with fail
    refine forget (M := fun W => Code.wp _ _ _ _ W) (fun W => TabAt W base tb pb (T.put k ⟨.slice A1 (p.n + l) e1, p.n + l, p.mark⟩) ∧ KeepsR p.ev.ownBlock w W ∧ Below base w W ∧ Blk W w.heap.size 34 [.int .i64 p.n, .int .i64 to, .slice A l c, .int .i64 m.wall, .int .i64 m.logic, .int .i64 m.node, rv]) ⟨hT2.ext (below_drewN (Below.refl _ _) _), hK2.trans (KeepsR.of_below (below_drewN (Below.refl _ _) _)), hB2.trans (below_drewN (Below.refl _ _) _), hX2.drewN _⟩ ?_
    clear q0 q1 q2 q3 hXc hT2 hK2 hB2 hX2
    rintro W3 ⟨hT3, hK3, hB3, hX3⟩
    obtain ⟨q0, q1, q2, q3⟩ := hT3.cells hpp
    have hXc := hX3.cell
    go_wp2_with fail
    refine wp_region_ht [0, 1, 2, 3, 4, 5, 6] [7, 8, 9, 10, 11] (by kernel_rfl) (by kernel_rfl) (fun _ _ d _ _ h => by cases d <;> exact h) ?_
    simp only [pick, List.filterMap_cons, List.filterMap_nil, List.getElem?_cons_zero, List.getElem?_cons_succ]
    repeat still_step
    refine wpStill_nil ?_
    go_wp2_with fail
    refine (max_any p.mark m _ _ _ ?_ ?_ ?_).mono ?_
    · simp
    · refine ⟨?_, ?_, ?_⟩ <;> simp [go_sem]
    · refine ⟨?_, ?_, ?_⟩ <;> simp [go_sem]
    rintro e w4 ⟨rfl, hbb⟩
    have hbb' : Below W3.heap.size W3 w4 := ((Below.refl _ _).al _).drew.tr hbb
    have hT4 := hT3.ext hbb'
    have hr4 : ∀ o, w4.frozen? ⟨pb, o, none⟩ = false := hT4.row.frozen
    have g1 := hr4 (k * 4 + 1)
    have g2 := hr4 (k * 4 + 1 + 1)
    have g3 := hr4 (k * 4 + 1 + 2)
    clear q0 q1 q2 q3 hXc hr4
    obtain ⟨q0, q1, q2, q3⟩ := hT4.cells hpp
    go_wp2
    go_ret
    rw [markOf_yes HE2.out]
    refine ⟨rfl, .slice A1 (p.n + l) e1, ?_, ?_, ?_, HAT.out⟩
    · rw [← Tab.put_put]
      exact hT4.mark hpp
    · have hb4 : Below base w w4 := hB3.trans (hbb'.mono (by have := hB3.size; omega))
      exact ((hb4.setCell h.b2 _).setCell h.b2 _).setCell h.b2 _
    · have r4 := hT4.row
      exact (((hK3.trans (KeepsR.of_below hbb')).trans (KeepsR.of_set r4 _)).trans (KeepsR.of_set (r4.set_ _ _) _)).trans (KeepsR.of_set ((r4.set_ _ _).set_ _ _) _)
  · have e2 : ((p.n : Int) + l == to) = false := by simp [hto2]
    have HE2 := Lib.hid hto2; clear hto2
    go_quiet (fail)
    go_wp2
    go_ret
    rw [markOf_no HE2.out]
    exact ⟨rfl, _, hT2.ext (below_drewN (Below.refl _ _) _), hB2.trans (below_drewN (Below.refl _ _) _), hK2.trans (KeepsR.of_below (below_drewN (Below.refl _ _) _)), HAT.out⟩
end Go.Proofs.Ytbebofneobfngaa
