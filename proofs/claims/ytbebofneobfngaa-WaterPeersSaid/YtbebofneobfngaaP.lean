/- The argument of the laws on steps, opened to cells. -/
import Derived.Test.YtbebofneobfngaaO
import Derived.Deep.Slices
import Derived.ChangeSame
import Derived.ChangeArms
namespace Go.Proofs.Ytbebofneobfngaa
open Go.RowKit Go.ChangeShapes Go.WideShapes Go.Deep
section
variable {H : Type} {enc : TypeId × Value → H} {w : World} {base : Nat} {spare : Nat → Bool} {held : Bool} {fuel : Nat} {cs : List Value} {x : DataW H × List MemPlace}

theorem tr_int (h : DataW.trod enc Try.prog w base spare held fuel 3 cs = some x) : ∃ n : Int, cs = [.int .i64 n] := by
  obtain ⟨n, h1, _⟩ := DataW.trod_int Try.underlying3 h
  exact ⟨n, h1⟩
theorem tr_string (h : DataW.trod enc Try.prog w base spare held fuel 9 cs = some x) : ∃ s : ByteArray, cs = [.string s] := by
  obtain ⟨s, h1, _⟩ := DataW.trod_string (by kernel_rfl) h
  exact ⟨s, h1⟩
theorem c3 : Try.prog.cellsOf 3 = 1 := by kernel_rfl
theorem c9 : Try.prog.cellsOf 9 = 1 := by kernel_rfl
theorem c24 : Try.prog.cellsOf 24 = 3 := by kernel_rfl
theorem c31 : Try.prog.cellsOf 31 = 1 := by kernel_rfl
theorem c32 : Try.prog.cellsOf 32 = 1 := by kernel_rfl
theorem c34 : Try.prog.cellsOf 34 = 7 := by kernel_rfl
theorem c36 : Try.prog.cellsOf 36 = 8 := by kernel_rfl
theorem c41 : Try.prog.cellsOf 41 = 7 := by kernel_rfl

theorem some_at {α : Type} {o : Option α} {xs : List α} {i n : Nat} (h : o = xs[i]?) (hl : xs.length = n) (hi : i < n) : ∃ y, o = some y :=
  ⟨xs[i], h.trans (List.getElem?_eq_getElem (by omega))⟩

theorem tr_stamp (h : DataW.trod enc Try.prog w base spare held fuel 24 cs = some x) : ∃ m : St, cs = [.int .i64 m.wall, .int .i64 m.logic, .int .i64 m.node] := by
  obtain ⟨xs, n, _, _, hl, hxl, hf⟩ := DataW.trod_struct Try.underlying24 h
  rw [c24] at hl
  have k0 := hf 0
  simp only [List.getElem?_toArray, List.getElem?_cons_zero, Option.some.injEq, forall_eq'] at k0
  obtain ⟨_, g0⟩ := some_at k0 hxl (by decide)
  have k1 := hf 1
  simp only [List.getElem?_toArray, List.getElem?_cons_zero, List.getElem?_cons_succ, Option.some.injEq, forall_eq'] at k1
  obtain ⟨_, g1⟩ := some_at k1 hxl (by decide)
  have k2 := hf 2
  simp only [List.getElem?_toArray, List.getElem?_cons_zero, List.getElem?_cons_succ, Option.some.injEq, forall_eq'] at k2
  obtain ⟨_, g2⟩ := some_at k2 hxl (by decide)
  obtain ⟨a, ea⟩ := tr_int g0
  obtain ⟨b, eb⟩ := tr_int g1
  obtain ⟨c, ec⟩ := tr_int g2
  clear g0 g1 g2 k0 k1 k2 hf h
  simp only [c3] at ea eb ec
  match cs, hl, ea, eb, ec with
  | [u0, u1, u2], _, ea, eb, ec =>
    simp at ea eb ec
    exact ⟨⟨a, b, c⟩, by simp [ea, eb, ec]⟩

theorem tr_event (h : DataW.trod enc Try.prog w base spare held fuel 41 cs = some x) : cs.length = 7 ∧ (∃ s d : ByteArray, cs[0]? = some (.string s) ∧ cs[2]? = some (.string d)) ∧ ∀ u ∈ cs, u.oneCell' = true := by
  obtain ⟨xs, n, _, _, hl, hxl, hf⟩ := DataW.trod_struct Try.underlying41 h
  rw [c41] at hl
  have k0 := hf 0
  simp only [List.getElem?_toArray, List.getElem?_cons_zero, Option.some.injEq, forall_eq'] at k0
  obtain ⟨_, g0⟩ := some_at k0 hxl (by decide)
  have k1 := hf 1
  simp only [List.getElem?_toArray, List.getElem?_cons_zero, List.getElem?_cons_succ, Option.some.injEq, forall_eq'] at k1
  obtain ⟨_, g1⟩ := some_at k1 hxl (by decide)
  have k2 := hf 2
  simp only [List.getElem?_toArray, List.getElem?_cons_zero, List.getElem?_cons_succ, Option.some.injEq, forall_eq'] at k2
  obtain ⟨_, g2⟩ := some_at k2 hxl (by decide)
  have k3 := hf 3
  simp only [List.getElem?_toArray, List.getElem?_cons_zero, List.getElem?_cons_succ, Option.some.injEq, forall_eq'] at k3
  obtain ⟨_, g3⟩ := some_at k3 hxl (by decide)
  have k4 := hf 4
  simp only [List.getElem?_toArray, List.getElem?_cons_zero, List.getElem?_cons_succ, Option.some.injEq, forall_eq'] at k4
  obtain ⟨_, g4⟩ := some_at k4 hxl (by decide)
  obtain ⟨s, e0⟩ := tr_string g0
  obtain ⟨v, e1⟩ := tr_int g1
  obtain ⟨d, e2⟩ := tr_string g2
  obtain ⟨m, e3⟩ := tr_stamp g3
  obtain ⟨i, e4⟩ := tr_int g4
  clear g0 g1 g2 g3 g4 k0 k1 k2 k3 k4 hf h
  simp only [c3, c9, c24] at e0 e1 e2 e3 e4
  match cs, hl, e0, e1, e2, e3, e4 with
  | [u0, u1, u2, u3, u4, u5, u6], _, e0, e1, e2, e3, e4 =>
    simp at e0 e1 e2 e3 e4
    obtain ⟨e3, e5, e6⟩ := e3
    subst e0 e1 e2 e3 e5 e6 e4
    exact ⟨rfl, ⟨s, d, rfl, rfl⟩, by simp [Value.oneCell']⟩

theorem lt_of_cell {w : World} {a : Addr} {u : Value} (h : w.cell? a = some u) : a.block < w.heap.size := by
  by_cases hl : a.block < w.heap.size
  · exact hl
  · exfalso
    have : w.heap[a.block]? = none := Array.getElem?_eq_none (by omega)
    unfold World.cell? at h
    simp [this] at h

theorem events_list {a : Addr} {len n : Nat} {D : Nat → DataW H} {Pl : Nat → List MemPlace} (hi : ∀ i, i < len → ∃ cs', w.cells? base (a.add (i * Try.prog.cellsOf 41)) (Try.prog.cellsOf 41) = some cs' ∧ DataW.trod enc Try.prog w base spare held n 41 cs' = some (D i, Pl i)) (k : Nat) (hk : k ≤ len) :
    ∃ news : List Value, news.length = k * 7 ∧ (∀ j u, news[j]? = some u → w.cell? (a.add j) = some u) ∧ EvTexts news k ∧ ∀ u ∈ news, u.oneCell' = true := by
  induction k with
  | zero => exact ⟨[], rfl, by simp, fun i hi => absurd hi (by omega), by simp⟩
  | succ k ih =>
    obtain ⟨news, hl, hc, ht, h1⟩ := ih (by omega)
    obtain ⟨cs', hcs, htr⟩ := hi k (by omega)
    obtain ⟨hl7, ⟨s, d, hs, hd⟩, h17⟩ := tr_event htr
    rw [c41] at hcs
    obtain ⟨_, _, hat⟩ := World.cells?_some hcs
    refine ⟨news ++ cs', by rw [List.length_append, hl, hl7]; omega, fun j u hu => ?_, fun i hik => ?_, fun u hu => ?_⟩
    · by_cases hj : j < k * 7
      · rw [List.getElem?_append_left (by omega)] at hu
        exact hc j u hu
      · rw [List.getElem?_append_right (by omega), hl] at hu
        have hlt := (List.getElem?_eq_some_iff.1 hu).1
        have := hat (j - k * 7) (by omega)
        rw [add_of_add, show k * 7 + (j - k * 7) = j from by omega] at this
        exact this.trans hu
    · by_cases hj : i < k
      · obtain ⟨s', d', h2, h3⟩ := ht i hj
        exact ⟨s', d', by rw [List.getElem?_append_left (by omega)]; exact h2, by rw [List.getElem?_append_left (by omega)]; exact h3⟩
      · obtain rfl : i = k := by omega
        exact ⟨s, d, by rw [List.getElem?_append_right (by omega), hl, Nat.sub_self]; exact hs, by rw [List.getElem?_append_right (by omega), hl, show i * 7 + 2 - i * 7 = 2 from by omega]; exact hd⟩
    · rcases List.mem_append.1 hu with h | h
      · exact h1 u h
      · exact h17 u h

theorem tr_events (h : DataW.trod enc Try.prog w base spare held fuel 31 cs = some x) : ∃ (A : Option Addr) (m c : Nat) (news : List Value), cs = [.slice A m c] ∧ Reads w w.heap.size 7 A m news ∧ EvTexts news m ∧ (∀ u ∈ news, u.oneCell' = true) ∧ m ≤ 9223372036854775807 := by
  rcases open_slice Try.underlying31 h with ⟨h0, _⟩ | ⟨a, len, cap, m, n, D, Pl, hcs, hb, hl, hcap, hmm, hx, hi⟩
  · exact ⟨none, 0, 0, [], h0, Reads.none_, (fun i hi => absurd hi (by omega)), by simp, by omega⟩
  · have hlm : len ≤ m := by rw [hmm]; split <;> omega
    obtain ⟨news, hn, hc, ht, h1⟩ := events_list (fun i hil => hi i (by omega)) len (Nat.le_refl _)
    refine ⟨some a, len, cap, news, hcs, ⟨hn, fun hpos => ⟨a, rfl, ?_, hc⟩⟩, ht, h1, by unfold maxLen at hcap; omega⟩
    have h0 := hc 0 news[0] (List.getElem?_eq_getElem (by omega))
    have := lt_of_cell h0
    rwa [block_of_add] at this

theorem tr_feed (h : DataW.trod enc Try.prog w base spare held fuel 34 cs = some x) : ∃ (fr to : Int) (A : Option Addr) (m c : Nat) (news : List Value) (mk : St) (rv : Value),
    cs = [.int .i64 fr, .int .i64 to, .slice A m c, .int .i64 mk.wall, .int .i64 mk.logic, .int .i64 mk.node, rv] ∧ Reads w w.heap.size 7 A m news ∧ EvTexts news m ∧ (∀ u ∈ news, u.oneCell' = true) ∧ m ≤ 9223372036854775807 := by
  obtain ⟨xs, n, _, _, hl, hxl, hf⟩ := DataW.trod_struct Try.underlying34 h
  rw [c34] at hl
  have k0 := hf 0
  simp only [List.getElem?_toArray, List.getElem?_cons_zero, Option.some.injEq, forall_eq'] at k0
  have k1 := hf 1
  simp only [List.getElem?_toArray, List.getElem?_cons_zero, List.getElem?_cons_succ, Option.some.injEq, forall_eq'] at k1
  have k2 := hf 2
  simp only [List.getElem?_toArray, List.getElem?_cons_zero, List.getElem?_cons_succ, Option.some.injEq, forall_eq'] at k2
  have k3 := hf 3
  simp only [List.getElem?_toArray, List.getElem?_cons_zero, List.getElem?_cons_succ, Option.some.injEq, forall_eq'] at k3
  obtain ⟨_, g0⟩ := some_at k0 hxl (by decide)
  obtain ⟨_, g1⟩ := some_at k1 hxl (by decide)
  obtain ⟨_, g2⟩ := some_at k2 hxl (by decide)
  obtain ⟨_, g3⟩ := some_at k3 hxl (by decide)
  obtain ⟨fr, e0⟩ := tr_int g0
  obtain ⟨to, e1⟩ := tr_int g1
  obtain ⟨A, m, c, news, e2, hr, ht, h1, hm⟩ := tr_events g2
  obtain ⟨mk, e3⟩ := tr_stamp g3
  clear g0 g1 g2 g3 k0 k1 k2 k3 hf h
  simp only [c3, c31, c24] at e0 e1 e2 e3
  match cs, hl, e0, e1, e2, e3 with
  | [u0, u1, u2, u3, u4, u5, u6], _, e0, e1, e2, e3 =>
    simp at e0 e1 e2 e3
    obtain ⟨e3, e5, e6⟩ := e3
    subst e0 e1 e2 e3 e5 e6
    exact ⟨fr, to, A, m, c, news, mk, u6, rfl, hr, ht, h1, hm⟩

theorem tr_step (h : DataW.trod enc Try.prog w base spare held fuel 36 cs = some x) : ∃ s : Stp,
    cs = [.int .i64 s.node, .int .i64 s.fr, .int .i64 s.to, .slice s.A s.m s.c, .int .i64 s.mark.wall, .int .i64 s.mark.logic, .int .i64 s.mark.node, s.rv] ∧ Reads w w.heap.size 7 s.A s.m s.news ∧ EvTexts s.news s.m ∧ (∀ u ∈ s.news, u.oneCell' = true) ∧ s.m ≤ 9223372036854775807 := by
  obtain ⟨xs, n, _, _, hl, hxl, hf⟩ := DataW.trod_struct Try.underlying36 h
  rw [c36] at hl
  have k0 := hf 0
  simp only [List.getElem?_toArray, List.getElem?_cons_zero, Option.some.injEq, forall_eq'] at k0
  have k1 := hf 1
  simp only [List.getElem?_toArray, List.getElem?_cons_zero, List.getElem?_cons_succ, Option.some.injEq, forall_eq'] at k1
  obtain ⟨_, g0⟩ := some_at k0 hxl (by decide)
  obtain ⟨_, g1⟩ := some_at k1 hxl (by decide)
  obtain ⟨node, e0⟩ := tr_int g0
  obtain ⟨fr, to, A, m, c, news, mk, rv, e1, hr, ht, h1, hm⟩ := tr_feed g1
  clear g0 g1 k0 k1 hf h
  simp only [c3, c34] at e0 e1
  match cs, hl, e0, e1 with
  | [u0, u1, u2, u3, u4, u5, u6, u7], _, e0, e1 =>
    simp at e0 e1
    obtain ⟨f0, f1, f2, f3, f4, f5, f6⟩ := e1
    subst e0 f0 f1 f2 f3 f4 f5 f6
    exact ⟨⟨node, fr, to, A, m, c, news, mk, u7⟩, rfl, hr, ht, h1, hm⟩

theorem steps_list {b o : Nat} {len n : Nat} {D : Nat → DataW H} {Pl : Nat → List MemPlace} (hi : ∀ i, i < len → ∃ cs', w.cells? base ((⟨b, o, none⟩ : Addr).add (i * Try.prog.cellsOf 36)) (Try.prog.cellsOf 36) = some cs' ∧ DataW.trod enc Try.prog w base spare held n 36 cs' = some (D i, Pl i)) (k : Nat) (hk : k ≤ len) :
    ∃ ss : List Stp, ss.length = k ∧ ∀ i s, ss[i]? = some s → StpAt w w.heap.size b (o + i * 8) s := by
  induction k with
  | zero => exact ⟨[], rfl, by simp⟩
  | succ k ih =>
    obtain ⟨ss, hl, hs⟩ := ih (by omega)
    obtain ⟨cs', hcs, htr⟩ := hi k (by omega)
    obtain ⟨s, he, hr, ht, h1, hm⟩ := tr_step htr
    rw [c36] at hcs
    obtain ⟨_, _, hat⟩ := World.cells?_some hcs
    subst he
    refine ⟨ss ++ [s], by simp [hl], fun i s' hi' => ?_⟩
    by_cases hik : i < k
    · rw [List.getElem?_append_left (by omega)] at hi'
      exact hs i s' hi'
    · rw [List.getElem?_append_right (by omega), hl] at hi'
      have : i = k := by
        have := (List.getElem?_eq_some_iff.1 hi').1
        simp at this; omega
      subst this
      simp at hi'
      subst hi'
      have a0 := hat 0 (by decide)
      have hb := lt_of_cell a0
      rw [block_of_add, block_of_add] at hb
      have aj := fun j hj => hat j hj
      simp only [add_off] at aj
      exact ⟨aj 0 (by decide), aj 1 (by decide), aj 2 (by decide), aj 3 (by decide), aj 4 (by decide), aj 5 (by decide), aj 6 (by decide), aj 7 (by decide), hb, hr, ht, h1, hm⟩

theorem tr_steps (h : DataW.trod enc Try.prog w base spare held fuel 22 cs = some x) : ∃ (A : Option Addr) (ss : List Stp) (c : Nat), cs = [.slice A ss.length c] ∧ ss.length ≤ 9223372036854775807 ∧ StpsAt w w.heap.size A ss := by
  rcases open_slice Try.underlying22 h with ⟨h0, _⟩ | ⟨a, len, cap, m, n, D, Pl, hcs, hb, hl, hcap, hmm, hx, hi⟩
  · exact ⟨none, [], 0, h0, by simp, fun h => absurd h (by simp)⟩
  · have hlm : len ≤ m := by rw [hmm]; split <;> omega
    by_cases hz : len = 0
    · exact ⟨some a, [], cap, by rw [hcs, hz]; rfl, by simp, fun h => absurd h (by simp)⟩
    obtain ⟨b, o, sp⟩ := a
    have hsp : sp = none := by
      obtain ⟨cs', hc', htr⟩ := hi 0 (by omega)
      obtain ⟨s, he, _⟩ := tr_step htr
      rw [c36] at hc'
      obtain ⟨_, _, hat⟩ := World.cells?_some hc'
      have h0 := hat 0 (by decide)
      subst he
      cases sp with
      | none => rfl
      | some q =>
        simp [Addr.add, World.cell?] at h0
        split at h0 <;> cases h0
    subst hsp
    obtain ⟨ss, hn, hs⟩ := steps_list (fun i hil => hi i (by omega)) len (Nat.le_refl _)
    exact ⟨_, ss, cap, by rw [hn]; exact hcs, by rw [hn]; unfold maxLen at hcap; omega, fun _ => ⟨b, o, rfl, hs⟩⟩
end
end Go.Proofs.Ytbebofneobfngaa
