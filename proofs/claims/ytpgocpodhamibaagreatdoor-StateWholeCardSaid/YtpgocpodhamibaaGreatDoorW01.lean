/- StateWhole (plain law). penstockalike: Sum, Total, Batch: how large a thing is. state.outcome, state.forget. state.Apply: outcome and forget. -/
import Derived.Test.YtpgocpodhamibaaGreatDoorL01
import Derived.Test.YtpgocpodhamibaaGreatDoorK03
import Derived.Test.YtpgocpodhamibaaGreatDoorL02
namespace Go.Proofs.YtpgocpodhamibaaGreatDoor
open Go.RowKit

/-! ### StateWhole -/
def wholeP (b : Batch) : Rec := ⟨4, 0, 0, false, ⟨5, 0, 1⟩, onceT, [], b, ⟨0, 0, 0, 0⟩, []⟩
def wholeC (b : Batch) : Rec := ⟨3, 0, 0, false, ⟨6, 0, 1⟩, ⟨0, 0, 0⟩, [], b, ⟨0, 0, 0, 0⟩, []⟩
def wholeAt (yes : Bool) : Stamp := if yes then ⟨7, 0, 1⟩ else ⟨0, 0, 0⟩
def wholeD (yes : Bool) : Rec := ⟨5, 0, 0, yes, wholeAt yes, onceT, [], ⟨⟨#[]⟩, []⟩, ⟨0, 0, 0, 0⟩, []⟩
theorem prepare_no {s : St} {r : Rec} (h : (prepareS s r).2 ≠ 0) : (prepareS s r).1 = s := by
  unfold prepareS at h ⊢
  split
  · rfl
  · rename_i h1
    rw [if_neg h1] at h
    split
    · rfl
    · rename_i h2
      rw [if_neg h2] at h
      split
      · rename_i h3; rw [if_pos h3] at h; exact absurd rfl h
      · rfl
theorem commit_no {s : St} {r : Rec} (h : (commitS s r).2 ≠ 0) : (commitS s r).1 = s := by
  unfold commitS at h ⊢
  split
  · rename_i h3; rw [if_pos h3] at h; exact absurd rfl h
  · rfl
theorem commit_held (s : St) (r : Rec) : (commitS s r).1.held = s.held ∧ (commitS s r).1.decided = s.decided := by
  unfold commitS; split <;> exact ⟨rfl, rfl⟩
theorem whole_no {s : St} {b : Batch} (h : newS 1 1 = some s) (hz : (applyS s (wholeP b)).2 ≠ 0) : (applyS s (wholeP b)).1.log = [] ∧ (applyS s (wholeP b)).1.held = [] := by
  have hs : s.log = [] ∧ s.held = [] := by
    unfold newS at h
    rw [if_neg (by decide)] at h
    injection h with h
    subst h
    exact ⟨rfl, rfl⟩
  unfold applyS at hz ⊢
  split
  · exact hs
  · rename_i hc
    rw [if_neg hc] at hz
    have e : doS s (wholeP b) = prepareS s (wholeP b) := rfl
    rw [e] at hz ⊢
    rw [prepare_no hz]; exact hs
theorem whole_check (yes : Bool) : checkR (wholeD yes) = 0 := by
  have h2 : headBad (wholeD yes) (fieldsF 5) = false := by
    cases yes <;> decide +kernel
  unfold checkR recB
  rw [show (wholeD yes).kind = 5 from rfl, h2, show namedK 5 = true from rfl, show listsBad (wholeD yes) (fieldsF 5) = false from rfl]
  cases yes <;> decide +kernel
/-- What a state is like in which just one batch is held. -/
theorem whole_held {s : St} {b : Batch} (h : newS 1 1 = some s) (hz : (applyS s (wholeP b)).2 = 0) :
    Inv (applyS s (wholeP b)).1 (sumD b.puts) ∧ checkB b = 0 ∧ ∃ f, (applyS s (wholeP b)).1.held = [(onceT, ⟨onceT, b, ⟨5, 0, 1⟩, f⟩)] ∧ (applyS s (wholeP b)).1.decided = [] := by
  have hI := inv_new h
  have hs : s.held = [] ∧ s.decided = [] := by
    unfold newS at h
    rw [if_neg (by decide)] at h
    injection h with h
    subst h
    exact ⟨rfl, rfl⟩
  have hI2 := apply_inv (r := wholeP b) hI (by omega)
  have e0 : 0 + costR (wholeP b) = sumD b.puts := by show 0 + (sumD b.puts + 0) = _; omega
  rw [e0] at hI2
  refine ⟨hI2, ?_⟩
  unfold applyS at hz ⊢
  by_cases hc : checkR (wholeP b) ≠ 0
  · rw [if_pos hc] at hz; exact absurd hz hc
  · rw [if_neg hc] at hz ⊢
    have e : doS s (wholeP b) = prepareS s (wholeP b) := rfl
    rw [e] at hz ⊢
    have hb := (checkR_batch (r := wholeP b) (by simpa using hc) (.inr rfl)).1
    refine ⟨hb, ?_⟩
    have hp : prepareS s (wholeP b) = if (mayS s b).2.2 = 0 then ({ s with held := [(onceT, ⟨onceT, b, ⟨5, 0, 1⟩, (mayS s b).1⟩)] }, 0) else (s, (mayS s b).2.2) := by
      show (if (getA onceT s.held).isSome = true then _ else if 0 < (getA onceT s.decided).getD 0 then _ else if (mayS s b).2.2 = 0 then ({ s with held := putA onceT ⟨onceT, b, _, (mayS s b).1⟩ s.held }, _) else _) = _
      rw [hs.1, hs.2, if_neg (by simp [getA]), if_neg (by simp [getA])]; rfl
    rw [hp] at hz ⊢
    by_cases hm : (mayS s b).2.2 = 0
    · rw [if_pos hm]; exact ⟨_, rfl, hs.2⟩
    · rw [if_neg hm] at hz; exact absurd hz hm
theorem whole_shared {s : St} {b other : Batch} {f : List Int} (hh : s.held = [(onceT, ⟨onceT, b, ⟨5, 0, 1⟩, f⟩)]) (hz : (applyS s (wholeC other)).2 = 0) : ∀ p ∈ b.puts, ∀ q ∈ other.puts, p.stream ≠ q.stream := by
  unfold applyS at hz
  by_cases hc : checkR (wholeC other) ≠ 0
  · rw [if_pos hc] at hz; exact absurd hz hc
  · rw [if_neg hc] at hz
    have e : doS s (wholeC other) = commitS s (wholeC other) := rfl
    rw [e] at hz
    have hm : (mayS s other).2.2 = 0 := by
      unfold commitS at hz
      by_cases hm : (mayS s (wholeC other).batch).2.2 = 0
      · exact hm
      · rw [if_neg hm] at hz; exact absurd hz hm
    have := (busy_free fun p hp => ((mayS_zero hm).2.1 p hp).2).1
    intro p hp
    exact this _ (by rw [hh]; exact List.mem_singleton.2 rfl) p hp
theorem whole_commit {s : St} {other : Batch} {N : Nat} (h : Inv s N) (hN : N ≤ 100000) : Inv (applyS s (wholeC other)).1 (N + sumD other.puts) ∧ (applyS s (wholeC other)).1.held = s.held ∧ (applyS s (wholeC other)).1.decided = s.decided := by
  have hI := apply_inv (r := wholeC other) h (by omega)
  have e0 : N + costR (wholeC other) = N + sumD other.puts := by show N + (sumD other.puts + 0) = _; omega
  rw [e0] at hI
  refine ⟨hI, ?_⟩
  unfold applyS
  split
  · exact ⟨rfl, rfl⟩
  · exact commit_held s (wholeC other)
theorem makeB_stamp {b : Batch} {f : List Int} {st : Stamp} {ix : Int} {e : Event} (h : e ∈ makeB b f st ix) : e.stamp = st := (makeF_stream _ _ _ _ _ h).2
theorem whole_decide {s : St} {b : Batch} {f : List Int} {yes : Bool} (hh : s.held = [(onceT, ⟨onceT, b, ⟨5, 0, 1⟩, f⟩)]) :
    (applyS s (wholeD yes)).2 = 0 ∧ (applyS s (wholeD yes)).1.held = [] ∧ getA onceT (applyS s (wholeD yes)).1.decided = some 1 ∧
    ∃ E, (applyS s (wholeD yes)).1.log = s.log ++ E ∧ E.length = (if yes then sumD b.puts else 0) ∧ ∀ e ∈ E, e.stamp = wholeAt yes := by
  have ha : applyS s (wholeD yes) = decideS s (wholeD yes) := by
    unfold applyS; rw [if_neg (by rw [whole_check]; simp)]; rfl
  have hg : getA (wholeD yes).tx s.held = some ⟨onceT, b, ⟨5, 0, 1⟩, f⟩ := by rw [hh]; rfl
  have hd : delA (wholeD yes).tx s.held = [] := by rw [hh]; rfl
  rw [ha]
  unfold decideS
  rw [hg]
  dsimp only
  rw [hd]
  have hdec : getA onceT (putA (wholeD yes).tx (1 : Int) s.decided) = some 1 := by rw [getA_put]; exact if_pos rfl
  cases yes
  · exact ⟨rfl, rfl, hdec, [], by simp [wholeD], rfl, by simp⟩
  · exact ⟨rfl, rfl, hdec, _, rfl, makeF_sum _ _ _ _ _, fun e he => makeB_stamp he⟩
end Go.Proofs.YtpgocpodhamibaaGreatDoor
namespace Go.Proofs.YtpgocpodhamibaaGreatDoor
open Go.RowKit

def GotSum (a : Int) (l : List Int) (e : Ending) : Prop := ∃ n : Int, e = .returned (.int .i64 n) ∧ 0 ≤ n ∧ n ≤ 1099511627776 ∧ (n < 1099511627776 → n = a + l.sum)
theorem sum_mono {l : List Int} (h : ∀ x ∈ l, 0 ≤ x) (k : Nat) : (l.take k).sum ≤ l.sum := by
  induction l generalizing k with
  | nil => simp
  | cons x l ih =>
    cases k with
    | zero =>
      have := ih (fun y hy => h y (List.mem_cons_of_mem _ hy)) 0
      have := h x (List.mem_cons_self ..)
      simp at *
      omega
    | succ k =>
      have := ih (fun y hy => h y (List.mem_cons_of_mem _ hy)) k
      simp
      omega
set_option maxRecDepth 20000 in
set_option maxHeartbeats 800000 in
theorem sum_any (a : Int) (l : List Int) (b : Nat) (w : World) (hb : Blk w b 3 (l.map fun n => .int .i64 n)) (ha : 0 ≤ a ∧ a ≤ 1099511627776) (hl : ∀ x ∈ l, 0 ≤ x) (hlen : l.length ≤ 1000000) :
    Calls Tryz.prog 54 #[.int .i64 a, .slice (some ⟨b, 0, none⟩) l.length l.length] w fun e w' => GotSum a l e ∧ w = w' := by
  have HB := Lib.hid (And.intro hb hl); clear hb hl
  obtain ⟨ha0, ha1⟩ := ha
  go_enter Tryz.func54, Tryz.ntmps54
  go_wp2
  go_loopw [0, 5] (fun x i wr => ∃ (k : Nat) (n : Int), k ≤ l.length ∧ i = .int .i64 k ∧ x = .int .i64 n ∧ 0 ≤ n ∧ n ≤ 1099511627776 ∧ n = a + (l.take k).sum ∧ wr = w) (fun _ i _ => l.length - (intOf i).toNat)
  case atStart => exact ⟨0, a, Nat.zero_le _, rfl, rfl, ha0, ha1, by simp, rfl⟩
  case round =>
    obtain ⟨k, n, hkl, rfl, rfl, hn0, hn1, hs, rfl⟩ := hrel
    have HS := Lib.hid hs; clear hs
    by_cases hlt : k < l.length
    · have hlk := List.getElem?_eq_getElem hlt
      have hts := take_snoc l k hlt
      have hx := HB.out.2 l[k] (List.getElem_mem hlt)
      have y0 : wr.cell? ⟨b, k, none⟩ = some (.int .i64 l[k]) := by rw [HB.out.1.cell, List.getElem?_map, hlk]; rfl
      generalize l[k] = x at *
      have HTS := Lib.hid (And.intro hts hlk); clear hts hlk
      have hlt' : (k : Int) < l.length := by omega
      by_cases h1 : 1099511627776 - n < x
      · go_wp2_with fail
        go_ret
        exact ⟨⟨1099511627776, rfl, by omega, by omega, fun h => absurd h (by omega)⟩, rfl⟩
      · go_wp2_with fail
        go_round
        case rel =>
          refine ⟨k + 1, n + x, by omega, by go_num, rfl, by omega, by omega, ?_, trivial⟩
          have h := HS.out
          rw [HTS.out.1, List.sum_append]
          simp only [List.sum_cons, List.sum_nil]
          omega
        case measure => (simp [intOf]; omega)
    · have hkn : k = l.length := by omega
      subst hkn
      go_wp2_with fail
      go_ret
      exact ⟨⟨n, rfl, hn0, hn1, fun _ => by have := HS.out; rwa [List.take_length] at this⟩, rfl⟩
def lenL (l : List Str) : Int := l.length + (l.map fun s => (s.size : Int)).sum
def GotTot (l : List Str) (m : Int) (e : Ending) : Prop := ∃ n : Int, e = .returned (.int .i64 n) ∧ 0 ≤ n ∧ n ≤ 1099511627776 ∧ (n ≤ m → n = lenL l)
set_option maxRecDepth 20000 in
set_option maxHeartbeats 800000 in
theorem total_any (l : List Str) (A : Option Addr) (c : Nat) (m : Int) (P : Nat → Prop) (w : World) (hr : StrR.Row w P A l) (hm : 0 ≤ m ∧ m ≤ 1000000) :
    Calls Tryz.prog 86 #[.slice A l.length c, .int .i64 m] w fun e w' => GotTot l m e ∧ Below w.heap.size w w' := by
  have HR := Lib.hid hr; clear hr
  obtain ⟨hm0, hm1⟩ := hm
  have hb1 := (Below.refl w.heap.size w).al (.cells #[.int .i64 l.length] 3)
  have C1 := sum_any 0 [(l.length : Int)] w.heap.size (w.alloc (.cells #[.int .i64 l.length] 3)) (Blk.new w 3 [.int .i64 l.length]) ⟨by omega, by omega⟩ (by simp) (by simp)
  go_enter Tryz.func86, Tryz.ntmps86
  go_wp2_with fail
  refine C1.mono ?_
  clear C1
  rintro e w1 ⟨⟨n, rfl, hn0, hn1, hn⟩, rfl⟩
  have HN := Lib.hid hn; clear hn
  go_wp2_with fail
  have hlm : n ≤ m → (l.length : Int) ≤ m := fun h => by have := HN.out (by omega); simp at this; omega
  generalize hw1 : (w.alloc (.cells #[.int .i64 l.length] 3)) = w1 at *
  clear hw1
  have HL := Lib.hid hlm; clear hlm
  go_loopw [5, 6] (fun x i wr => ∃ (k : Nat) (n : Int), k ≤ l.length ∧ i = .int .i64 k ∧ x = .int .i64 n ∧ 0 ≤ n ∧ n ≤ 1099511627776 ∧ (n ≤ m → n = l.length + ((l.take k).map fun s => (s.size : Int)).sum) ∧ (n ≤ m → (l.length : Int) ≤ m) ∧ Below w.heap.size w wr) (fun _ i _ => l.length - (intOf i).toNat)
  case atStart => exact ⟨0, n, Nat.zero_le _, rfl, rfl, hn0, hn1, fun h => by have := HN.out (by omega); simpa using this, HL.out, hb1⟩
  case round =>
    obtain ⟨k, n, hkl, rfl, rfl, hn0, hn1, hs, hlm, hbl⟩ := hrel
    have HS := Lib.hid (And.intro hs hlm); clear hs hlm HN HL hb1
    by_cases hlt : k < l.length
    · have hlt' : (k : Int) < l.length := by omega
      by_cases hnm : n ≤ m
      · have hlk := List.getElem?_eq_getElem hlt
        have hts := take_snoc l k hlt
        obtain ⟨bb, o, cs, rfl, hP, hbw, ⟨rfl, hi1⟩, hcs⟩ := (HR.out.same (Same.of_below hbl) hbl.size).at_ hlk
        generalize l[k] = x at *
        have c0 := hcs 0 _ rfl; simp only [StrR_size, Nat.add_zero, Nat.mul_one] at c0
        have hlm := HS.out.2 hnm
        have HTS := Lib.hid (And.intro hts (And.intro hlk hcs)); clear hts hlk hcs
        have hb2 := hbl.tr ((Below.refl wr.heap.size wr).al (.cells #[.int .i64 (x.size : Int)] 3))
        have C2 := sum_any n [(x.size : Int)] wr.heap.size (wr.alloc (.cells #[.int .i64 (x.size : Int)] 3)) (Blk.new wr 3 [.int .i64 (x.size : Int)]) ⟨by omega, by omega⟩ (by simp) (by simp)
        have HB2 := Lib.hid hb2
        clear hbl hb2
        go_wp2_with fail
        refine C2.mono ?_
        clear C2
        rintro e w2 ⟨⟨n2, rfl, hn20, hn21, hn2⟩, rfl⟩
        have HN2 := Lib.hid hn2; clear hn2
        go_wp2_with fail
        go_round
        case rel =>
          refine ⟨k + 1, n2, by omega, by simp, rfl, hn20, hn21, fun h => ?_, fun _ => hlm, HB2.out⟩
          have h1 := HN2.out (by omega)
          have h2 := HS.out.1 hnm
          rw [HTS.out.1, List.map_append, List.sum_append]
          simp only [List.sum_cons, List.sum_nil, List.map_cons, List.map_nil] at h1 ⊢
          omega
        case measure => (simp [intOf]; omega)
      · have HB := Lib.hid hbl
        clear hbl
        go_wp2_with fail
        go_ret
        exact ⟨⟨n, rfl, hn0, hn1, fun h => absurd h (by omega)⟩, HB.out⟩
    · have hkn : k = l.length := by omega
      subst hkn
      have HB := Lib.hid hbl
      clear hbl
      go_wp2_with fail
      all_goals
        go_ret
        exact ⟨⟨n, rfl, hn0, hn1, fun h => by have := HS.out.1 h; rwa [List.take_length] at this⟩, HB.out⟩
def sizeP (p : Put) : Int := p.stream.size + lenL p.data
def sizeB (b : Batch) : Int := b.key.size + b.puts.length + (b.puts.map sizeP).sum
def GotSize (n m : Int) (e : Ending) : Prop := ∃ k : Int, e = .returned (.int .i64 k) ∧ 0 ≤ k ∧ k ≤ 1099511627776 ∧ (k ≤ m → k = n)
theorem lenL_nn (l : List Str) : 0 ≤ lenL l := by
  unfold lenL
  have := sum_mono (l := l.map fun s => (s.size : Int)) (by simp) 0
  simp only [List.take_zero, List.sum_nil] at this
  omega
set_option maxRecDepth 20000 in
set_option maxHeartbeats 1600000 in
theorem sizeB_any (b : Batch) (A : Option Addr) (c : Nat) (m : Int) (P : Nat → Prop) (w : World) (hr : PutR.Row w P A b.puts) (hk : sfit b.key) (hm : 0 ≤ m ∧ m ≤ 1000000) :
    Calls Tryz.prog 27 #[.agg #[.string b.key, .slice A b.puts.length c], .int .i64 m] w fun e w' => GotSize (sizeB b) m e ∧ Below w.heap.size w w' := by
  have HR := Lib.hid hr; clear hr
  have hk0 : (b.key.size : Int) ≤ 9223372036854775807 := by unfold sfit at hk; omega
  clear hk
  obtain ⟨hm0, hm1⟩ := hm
  have B0 := Blk.new w 32 [.string b.key, .slice A b.puts.length c]
  have hb0 := (Below.refl w.heap.size w).al (.cells #[.string b.key, .slice A b.puts.length c] 32)
  have x0 := B0.cell 0
  have x1 := B0.cell 1
  have HB0 := Lib.hid (And.intro B0 hb0)
  clear B0 hb0
  go_enter Tryz.func27, Tryz.ntmps27
  go_upto_region 1 with fail
  generalize hw0 : (w.alloc (.cells #[.string b.key, .slice A b.puts.length c] 32)) = w0 at *
  clear hw0
  have C1 := sum_any 0 [(b.key.size : Int), (b.puts.length : Int)] w0.heap.size (w0.alloc (.cells #[.int .i64 b.key.size, .int .i64 b.puts.length] 3)) (Blk.new w0 3 [.int .i64 b.key.size, .int .i64 b.puts.length]) ⟨by omega, by omega⟩ (by simp) (by simp)
  have hb1 := (Below.refl w0.heap.size w0).al (.cells #[.int .i64 b.key.size, .int .i64 b.puts.length] 3)
  go_wp2_with fail
  refine C1.mono ?_
  clear C1
  rintro e w1 ⟨⟨n, rfl, hn0, hn1, hn⟩, rfl⟩
  have HN := Lib.hid (And.intro hn hb1); clear hn hb1
  have hlm : n ≤ m → (b.puts.length : Int) ≤ m := fun h => by have := HN.out.1 (by omega); simp only [List.sum_cons, List.sum_nil] at this; omega
  have HL := Lib.hid hlm; clear hlm
  go_wp2_with fail
  generalize hw1 : (w0.alloc (.cells #[.int .i64 b.key.size, .int .i64 b.puts.length] 3)) = w1 at *
  clear hw1 x0 x1
  go_loopw [5, 6] (fun x i wr => ∃ (k : Nat) (n : Int), k ≤ b.puts.length ∧ i = .int .i64 k ∧ x = .int .i64 n ∧ 0 ≤ n ∧ n ≤ 1099511627776 ∧ (n ≤ m → n = b.key.size + b.puts.length + ((b.puts.take k).map sizeP).sum) ∧ (n ≤ m → (b.puts.length : Int) ≤ m) ∧ Below w0.heap.size w0 wr) (fun _ i _ => b.puts.length - (intOf i).toNat)
  case atStart => exact ⟨0, n, Nat.zero_le _, rfl, rfl, hn0, hn1, fun h => by have := HN.out.1 (by omega); simpa [Int.add_assoc] using this, HL.out, HN.out.2⟩
  case round =>
    obtain ⟨k, n, hkl, rfl, rfl, hn0, hn1, hs, hlm, hbl⟩ := hrel
    have HS := Lib.hid (And.intro hs hlm); clear hs hlm HN HL
    have x1 : wr.cell? ⟨w.heap.size, 1, none⟩ = some (.slice A b.puts.length c) := (HB0.out.1.ext hbl).cell 1
    have hb2 := HB0.out.2.tr hbl
    by_cases hlt : k < b.puts.length
    · have hlt' : (k : Int) < b.puts.length := by omega
      by_cases hnm : n ≤ m
      · have hlk := List.getElem?_eq_getElem hlt
        have hts := take_snoc b.puts k hlt
        obtain ⟨bb, o, cs, rfl, hP, hbw, hrep, hcs⟩ := (HR.out.same (Same.of_below hb2) hb2.size).at_ hlk
        generalize b.puts[k] = p at *
        obtain ⟨Ad, cd, rfl, hps, _, hd1, hd2, hrow⟩ := put_rep.1 hrep
        have c0 := hcs 0 _ rfl; have c1 := hcs 1 _ rfl; have c2 := hcs 2 _ rfl; simp only [PutR_size, Nat.add_zero] at c0 c1 c2
        have hlm := HS.out.2 hnm
        have hps' : (p.stream.size : Int) ≤ 9223372036854775807 := by unfold sfit at hps; omega
        have HTS := Lib.hid (And.intro hts (And.intro hlk hcs)); clear hts hlk hcs hrep hps
        have hlo := Below.refl wr.heap.size wr
        have HBL := Lib.hid (And.intro hbl hb2)
        have y1 := On.cell x1
        have y0 := On.cell c0
        have y2 := On.cell c2
        have HRW := Lib.hid hrow
        clear hbl hb2 hrow c0 c1 c2
        go_upto_region 5 with fail
        clear x1
        refine wp_region_mix (.seg [0, 1, 2, 3, 4, 5, 6, 7, 8, 9, 10, 11, 12, 13, 14] 15 (.seg [] 16 (.seg [] 17 (.leaf [18])))) (fun w' => ∃ d : Wd (On wr), w' = d.w) (by kernel_rfl) (by kernel_rfl) (fun _ _ d _ _ h => by cases d <;> exact h) (ClsW.mk hlo.drew) ?_
        unfold wpMix; simp only [pick, List.filterMap_cons, List.filterMap_nil, List.getElem?_cons_zero, List.getElem?_cons_succ]
        (repeat (show wpQuiet _ _ _ _ (_ :: _) _; go_big_quiet_step (fail))); refine wpQuiet_nil ?_
        go_wp2_with fail
        refine (total_any p.data Ad cd m _ wr.drew (HRW.out.ext (Below.refl _ wr).drew) ⟨hm0, hm1⟩).mono ?_
        rintro e w2 ⟨⟨t, rfl, ht0, ht1, ht⟩, hb3'⟩
        have hb3 : Below wr.heap.size wr w2 := (Below.refl _ wr).drew.tr hb3'
        have HT := Lib.hid ht
        clear ht hb3'
        go_wp2_with fail
        (dsimp only [wpList, SegQ]; refine ⟨fun w' => ∃ d : Wd (On wr), w' = d.w, ClsW.mk (hb3), fun _ h => h, ?_⟩; unfold wpMix; simp only [pick, List.filterMap_cons, List.filterMap_nil, List.getElem?_cons_zero, List.getElem?_cons_succ]; (repeat (show wpQuiet _ _ _ _ (_ :: _) _; go_big_quiet_step (fail))); refine wpQuiet_nil ?_)
        have hb4 := hb3.al (.cells #[.int .i64 (p.stream.size : Int), .int .i64 t] 3)
        have C2 := sum_any n [(p.stream.size : Int), t] w2.heap.size (w2.alloc (.cells #[.int .i64 (p.stream.size : Int), .int .i64 t] 3)) (Blk.new w2 3 [.int .i64 (p.stream.size : Int), .int .i64 t]) ⟨by omega, by omega⟩ (by simp; omega) (by simp)
        go_wp2_with fail
        (dsimp only [wpList, SegQ]; refine ⟨fun w' => ∃ d : Wd (On wr), w' = d.w, ClsW.mk (hb4), fun _ h => h, ?_⟩; unfold wpMix; simp only [pick, List.filterMap_cons, List.filterMap_nil, List.getElem?_cons_zero, List.getElem?_cons_succ]; (repeat (show wpQuiet _ _ _ _ (_ :: _) _; go_big_quiet_step (fail))); refine wpQuiet_nil ?_)
        generalize hw3 : (w2.alloc (.cells #[.int .i64 (p.stream.size : Int), .int .i64 t] 3)) = w3 at *
        clear hw3
        go_wp2_with fail
        refine C2.mono ?_
        clear C2
        rintro e w4 ⟨⟨n2, rfl, hn20, hn21, hn2⟩, rfl⟩
        have HN2 := Lib.hid hn2
        have HB4 := Lib.hid (HBL.out.1.tr hb4)
        clear hn2
        go_wp2_with fail
        (dsimp only [wpList, SegQ]; refine ⟨fun w' => ∃ d : Wd (On wr), w' = d.w, ClsW.mk (hb4), fun _ h => h, ?_⟩; unfold wpMix; simp only [pick, List.filterMap_cons, List.filterMap_nil, List.getElem?_cons_zero, List.getElem?_cons_succ]; (repeat (show wpQuiet _ _ _ _ (_ :: _) _; go_big_quiet_step (fail))); refine wpQuiet_nil ?_)
        clear y0 y1 y2 hb4 hb3 hlo
        go_wp2_with fail
        go_round
        case rel =>
          refine ⟨k + 1, n2, by omega, by simp, rfl, hn20, hn21, fun h => ?_, fun _ => hlm, HB4.out⟩
          have h1 := HN2.out (by omega)
          have h2 := HS.out.1 hnm
          simp only [List.sum_cons, List.sum_nil] at h1
          have h3 := HT.out (by omega)
          rw [HTS.out.1, List.map_append, List.sum_append]
          simp only [List.sum_cons, List.sum_nil, List.map_cons, List.map_nil, sizeP]
          omega
        case measure => (simp [intOf]; omega)
      · have HB := Lib.hid (And.intro hbl hb2)
        clear hbl hb2
        go_wp2_with fail
        go_ret
        exact ⟨⟨n, rfl, hn0, hn1, fun h => absurd h (by omega)⟩, HB.out.2⟩
    · have hkn : k = b.puts.length := by omega
      subst hkn
      have HB := Lib.hid (And.intro hbl hb2)
      clear hbl hb2
      go_wp2_with fail
      all_goals
        go_ret
        exact ⟨⟨n, rfl, hn0, hn1, fun h => by have := HS.out.1 h; rwa [List.take_length] at this⟩, HB.out.2⟩
end Go.Proofs.YtpgocpodhamibaaGreatDoor
namespace Go.Proofs.YtpgocpodhamibaaGreatDoor
open Go.RowKit

def Outcome.cellsV (h : Outcome) (fA : Option Addr) (fc : Nat) : List Value :=
  [.int .i64 h.tx.node, .int .i64 h.tx.life, .int .i64 h.tx.num, .bool h.yes, .int .i64 h.stamp.wall, .int .i64 h.stamp.logic, .int .i64 h.stamp.node, .slice fA h.nodes.length fc]
theorem outcome_rep {w : World} {P : Nat → Prop} {cs : List Value} {h : Outcome} : OutcomeR.rep w P cs h ↔ ∃ fA fc, cs = h.cellsV fA fc ∧ h.tx.fit ∧ h.stamp.fit ∧ (h.nodes.length ≤ fc ∧ fc ≤ 9223372036854775807 ∧ IntR.Row w P fA h.nodes) := by
  constructor
  · rintro ⟨c1, c2, rfl, htx, c3, c4, rfl, rfl, c5, c6, rfl, hst, ⟨fA, fc, rfl, f1, f2, f3⟩⟩
    obtain ⟨rfl, h1⟩ := tx_rep.1 htx
    obtain ⟨rfl, h2⟩ := stamp_rep.1 hst
    exact ⟨fA, fc, rfl, h1, h2, ⟨f1, f2, f3⟩⟩
  · rintro ⟨fA, fc, rfl, h1, h2, ⟨f1, f2, f3⟩⟩
    exact ⟨_, _, rfl, tx_rep.2 ⟨rfl, h1⟩, [_], _, rfl, rfl, _, [_], rfl, stamp_rep.2 ⟨rfl, h2⟩, fA, fc, rfl, f1, f2, f3⟩
theorem outcome_of {LA : List (Tx × (Outcome × List Value))} {w : World} {P : Nat → Prop} (hr : ∀ p ∈ LA, OutcomeR.rep w P p.2.2 p.2.1) (t : Tx) :
    (getA t (LA.map fun p => (p.1, p.2.1)) = none ∧ assocOf t (LA.map fun p => (p.1, aggV p.2.2)) = none) ∨
    ∃ h fA fc, getA t (LA.map fun p => (p.1, p.2.1)) = some h ∧ assocOf t (LA.map fun p => (p.1, aggV p.2.2)) = some (.agg (h.cellsV fA fc).toArray) := by
  rw [assocOf_eq, getA_map (fun x : Outcome × List Value => x.1) t LA, getA_map (fun x : Outcome × List Value => aggV x.2) t LA]
  cases hg : getA t LA with
  | none => exact .inl ⟨rfl, rfl⟩
  | some x =>
    obtain ⟨h, cs⟩ := x
    have := hr _ (getA_mem hg)
    dsimp only at this
    obtain ⟨fA, fc, rfl, _⟩ := outcome_rep.1 this
    exact .inr ⟨h, fA, fc, rfl, rfl⟩
def farN (n : Int) : Bool := decide (n < 1) || decide (5 < n)
theorem farNode_any (n : Int) (w : World) : Calls Tryz.prog 151 #[.int .i64 n] w fun e w' => e = .returned (.bool (farN n)) ∧ w = w' := by
  go_enter Tryz.func151, Tryz.ntmps151
  go_wp2
  all_goals
    go_ret
    refine ⟨ret_bool ?_, rfl⟩
    go_light
    unfold farN
    refine Bool.eq_iff_iff.2 ?_
    simp at *
    try omega
theorem enters_far : ∀ args w, (callFunc 151 args).run Tryz.prog w = .ok (.enter 151 args) w := enters_of Tryz.func151 (by kernel_rfl) rfl

set_option maxRecDepth 20000 in
set_option maxHeartbeats 3200000 in
theorem forget_any (g : Nat) (s : St) (r : Rec) (nA pA sA : Option Addr) (nc pc sc : Nat) (P Q : Nat → Prop) (w : World) (h : StAt w P g s) (hg : ¬ P g)
    (hr : RecAt w Q r nA nc pA pc sA sc) (_hln : r.nodes.length ≤ 1000000) :
    Calls Tryz.prog 76 #[ptrV g, .agg (r.cells nA nc pA pc sA sc).toArray] w (StOut w P g (forgetS s r)) := by
  have hgl := h.lt
  have HH := Lib.hid (And.intro h (And.intro hg hr))
  clear h hg hr
  have hb1 := (Below.refl w.heap.size w).al (.cells (r.cells nA nc pA pc sA sc).toArray 43)
  have B0 := Blk.new w 43 (r.cells nA nc pA pc sA sc)
  have hs1 : (w.alloc (.cells (r.cells nA nc pA pc sA sc).toArray 43)).heap.size = w.heap.size + 1 := by simp
  unfold ptrV
  go_enter Tryz.func76, Tryz.ntmps76
  go_upto_region 1 with fail
  refine forget (M := fun W => Code.wp _ _ _ _ W) (fun W => Below w.heap.size w W ∧ Blk W w.heap.size 43 (r.cells nA nc pA pc sA sc) ∧ W.heap.size = w.heap.size + 1) ⟨hb1, B0, hs1⟩ ?_
  clear B0 hb1 hs1
  rintro w1 ⟨hb1, B0, hs1⟩
  obtain ⟨v, hB, hI⟩ := HH.out.1
  have HB := Lib.hid (And.intro hB hI)
  obtain ⟨LA, hMV, hrep, hlA⟩ := hI.outcomes.mapV
  have hho := outcome_of hrep r.tx
  rw [← hlA] at hho
  have y7 := On.cell ((hB.ext hb1).cell 7 : w1.cell? ⟨g, 7, none⟩ = some v.outcomes)
  have z7 := On.cell (B0.cell 7 : w1.cell? ⟨w.heap.size, 7, none⟩ = some (.int .i64 r.tx.node))
  have z8 := On.cell (B0.cell 8 : w1.cell? ⟨w.heap.size, 8, none⟩ = some (.int .i64 r.tx.life))
  have z9 := On.cell (B0.cell 9 : w1.cell? ⟨w.heap.size, 9, none⟩ = some (.int .i64 r.tx.num))
  have HMV := Lib.hid (fun (W : World) (hW : ∃ d : Wd (On w1), W = d.w) => (show MapV W v.outcomes (LA.map fun p => (p.1, aggV p.2.2)) from by obtain ⟨d, rfl⟩ := hW; exact hMV.ext (hb1.tr d.ok)))
  have HMW := Lib.hid (fun (W : World) (hW : Below w.heap.size w W) => (show MapV W v.outcomes (LA.map fun p => (p.1, aggV p.2.2)) from hMV.ext hW))
  have H1 := Lib.hid (And.intro hb1 (And.intro B0 hs1))
  have HREP := Lib.hid (And.intro hrep (And.intro hlA hMV))
  clear hB hI hMV hb1 B0 hs1 hrep hlA
  refine wp_region_mix (.seg [0, 1, 2, 3, 4, 5, 6, 7, 8, 9] 10 (.seg [] 11 (.leaf [12]))) (fun w' => ∃ d : Wd (On w1), w' = d.w) (by kernel_rfl) (by kernel_rfl) (fun _ _ d _ _ h => by cases d <;> exact h) (ClsW.mk (Below.refl _ _).drew) ?_
  unfold wpMix; simp only [pick, List.filterMap_cons, List.filterMap_nil, List.getElem?_cons_zero, List.getElem?_cons_succ]
  rcases hho with ⟨hg0, hq⟩ | ⟨hh, uA, uc, hg1, hq⟩
  · have HS := Lib.hid (show forgetS s r = (s, 4) from by unfold forgetS; rw [hg0]; rfl)
    clear hg0
    (repeat (show wpQuiet _ _ _ _ (_ :: _) _; first | (refine wpQuiet_lookup_v none rfl (.tmp 11) (.tmp 13) 138 true rfl Tryz.underlying138 rfl HMV.out r.tx rfl hq _ zero_outcome ?_; simp only [Option.getD_none, Option.isSome_none, if_true]; go_simp) | go_big_quiet_step (fail))); refine wpQuiet_nil ?_
    go_wp2_with fail
    (dsimp only [wpList, SegQ]; refine ⟨fun w' => ∃ d : Wd (On w1), w' = d.w, ClsW.mk (by unfold On; repeat (with_reducible first | assumption | exact Below.refl _ _ | refine Below.al ?_ _ | refine Below.drew ?_ | apply Below.st1)), fun _ h => h, ?_⟩; unfold wpMix; simp only [pick, List.filterMap_cons, List.filterMap_nil, List.getElem?_cons_zero, List.getElem?_cons_succ]; (repeat (show wpQuiet _ _ _ _ (_ :: _) _; go_big_quiet_step (fail))); refine wpQuiet_nil ?_)
    go_wp2_with fail
    (dsimp only [wpList, SegQ]; refine ⟨fun w' => ∃ d : Wd (On w1), w' = d.w, ClsW.mk (by unfold On; repeat (with_reducible first | assumption | exact Below.refl _ _ | refine Below.al ?_ _ | refine Below.drew ?_ | apply Below.st1)), fun _ h => h, ?_⟩; unfold wpMix; simp only [pick, List.filterMap_cons, List.filterMap_nil, List.getElem?_cons_zero, List.getElem?_cons_succ]; (repeat (show wpQuiet _ _ _ _ (_ :: _) _; go_big_quiet_step (fail))); refine wpQuiet_nil ?_)
    go_wp2_with fail
    go_ret
    unfold StOut
    rw [HS.out]
    have hb4 : Below w.heap.size w ((w1.alloc (.cells #[.int .i64 0, .int .i64 0, .int .i64 0, .bool false, .int .i64 0, .int .i64 0, .int .i64 0, .slice none 0 0] 178)).drew) := (H1.out.1.al _).drew
    exact ⟨rfl, ⟨v, HB.out.1.ext hb4, (HB.out.2.same (Same.of_below hb4)).mono fun k hk => .inl hk⟩, Only.of_below hb4⟩
  · have HS := Lib.hid (show forgetS s r = ({ s with outcomes := delA r.tx s.outcomes }, 0) from by unfold forgetS; rw [hg1]; rfl)
    obtain ⟨m, hvm, hMm⟩ : ∃ m, v.outcomes = .map (some m) ∧ MapAt txE w m (LA.map fun p => (p.1, aggV p.2.2)) := by
      rcases HREP.out.2.2 with ⟨_, e⟩ | ⟨m, e, hM⟩
      · rw [e] at hq; cases hq
      · exact ⟨m, e, hM⟩
    have HK := Lib.hid (And.intro hvm hMm)
    clear hg1 hvm hMm
    (repeat (show wpQuiet _ _ _ _ (_ :: _) _; first | (refine wpQuiet_lookup_v _ rfl (.tmp 11) (.tmp 13) 138 true rfl Tryz.underlying138 rfl HMV.out r.tx rfl hq _ zero_outcome ?_; simp only [Option.getD_some, Option.isSome_some, if_true]; unfold Outcome.cellsV; go_simp) | go_big_quiet_step (fail))); refine wpQuiet_nil ?_
    go_wp2_with fail
    (dsimp only [wpList, SegQ]; refine ⟨fun w' => ∃ d : Wd (On w1), w' = d.w, ClsW.mk (by unfold On; repeat (with_reducible first | assumption | exact Below.refl _ _ | refine Below.al ?_ _ | refine Below.drew ?_ | apply Below.st1)), fun _ h => h, ?_⟩; unfold wpMix; simp only [pick, List.filterMap_cons, List.filterMap_nil, List.getElem?_cons_zero, List.getElem?_cons_succ]; (repeat (show wpQuiet _ _ _ _ (_ :: _) _; go_big_quiet_step (fail))); refine wpQuiet_nil ?_)
    go_wp2_with fail
    (dsimp only [wpList, SegQ]; refine ⟨fun w' => ∃ d : Wd (On w1), w' = d.w, ClsW.mk (by unfold On; repeat (with_reducible first | assumption | exact Below.refl _ _ | refine Below.al ?_ _ | refine Below.drew ?_ | apply Below.st1)), fun _ h => h, ?_⟩; unfold wpMix; simp only [pick, List.filterMap_cons, List.filterMap_nil, List.getElem?_cons_zero, List.getElem?_cons_succ]; (repeat (show wpQuiet _ _ _ _ (_ :: _) _; go_big_quiet_step (fail))); refine wpQuiet_nil ?_)
    go_upto_region 4 with fail
    have h14 : Below w1.heap.size w1 ((w1.alloc (.cells #[.int .i64 hh.tx.node, .int .i64 hh.tx.life, .int .i64 hh.tx.num, .bool hh.yes, .int .i64 hh.stamp.wall, .int .i64 hh.stamp.logic, .int .i64 hh.stamp.node, .slice uA hh.nodes.length uc] 178)).drew) := by repeat (with_reducible first | assumption | exact Below.refl _ _ | refine Below.al ?_ _ | refine Below.drew ?_ | apply Below.st1)
    generalize hw4 : ((w1.alloc (.cells #[.int .i64 hh.tx.node, .int .i64 hh.tx.life, .int .i64 hh.tx.num, .bool hh.yes, .int .i64 hh.stamp.wall, .int .i64 hh.stamp.logic, .int .i64 hh.stamp.node, .slice uA hh.nodes.length uc] 178)).drew) = w4 at *
    clear hw4 hq y7 z7 z8 z9
    have hw4 := H1.out.1.tr h14
    have B4 := H1.out.2.1.ext h14
    have y7 := On.cell (by rw [← HK.out.1]; exact (HB.out.1.ext hw4).cell 7 : w4.cell? ⟨g, 7, none⟩ = some (.map (some m)))
    have z7 := On.cell (B4.cell 7 : w4.cell? ⟨w.heap.size, 7, none⟩ = some (.int .i64 r.tx.node))
    have z8 := On.cell (B4.cell 8 : w4.cell? ⟨w.heap.size, 8, none⟩ = some (.int .i64 r.tx.life))
    have z9 := On.cell (B4.cell 9 : w4.cell? ⟨w.heap.size, 9, none⟩ = some (.int .i64 r.tx.num))
    have H4 := Lib.hid (And.intro h14 hw4)
    clear h14 hw4 B4
    refine wp_region_mix (.seg [0, 1, 2, 3, 4, 5, 6] 7 (.seg [] 8 (.last [9] 10))) (fun w' => ∃ d : Wd (On w4), w' = d.w) (by kernel_rfl) (by kernel_rfl) (fun _ _ d _ _ h => by cases d <;> exact h) (ClsW.mk (Below.refl _ _).drew) ?_
    unfold wpMix; simp only [pick, List.filterMap_cons, List.filterMap_nil, List.getElem?_cons_zero, List.getElem?_cons_succ]
    (repeat (show wpQuiet _ _ _ _ (_ :: _) _; go_big_quiet_step (fail))); refine wpQuiet_nil ?_
    have hd4 : Below w4.heap.size w4 w4.drew := (Below.refl _ _).drew
    have CA := withoutO_any m _ r.tx w4.drew (HK.out.2.ext (H4.out.2.tr hd4))
    unfold txE at CA
    go_wp2_with fail
    refine CA.mono ?_
    clear CA
    rintro e w5 ⟨⟨m5, rfl, hm5, hM5⟩, hb5⟩
    have h45 := hd4.tr hb5
    have hw5 := H4.out.2.tr h45
    have B5 := HB.out.1.ext hw5
    have x7 : w5.cell? ⟨g, 7, none⟩ = some v.outcomes := B5.cell 7
    have x7f : w5.frozen? ⟨g, 7, none⟩ = false := B5.frozen 7
    have B6 : Blk (w5.setCell ⟨g, 7, none⟩ (.map (some m5))) g 141 (St.cells { s with outcomes := delA r.tx s.outcomes } { v with outcomes := .map (some m5) }) := B5.set_ 7 (.map (some m5))
    have O6 : Only (fun k => k = g) w5 (w5.setCell ⟨g, 7, none⟩ (.map (some m5))) := Only.set_ (F := fun k => k = g) rfl _
    have H6 := Lib.hid (And.intro B6 (And.intro O6 (And.intro hw5 (And.intro hm5 (And.intro hM5 h45.size)))))
    clear B6 O6 hw5 hm5 hM5 hb5 B5 hd4
    go_wp2_with fail
    (dsimp only [wpList, SegQ]; refine ⟨fun w' => ∃ d : Wd (On w4), w' = d.w, ClsW.mk (h45), fun _ h => h, ?_⟩; unfold wpMix; simp only [pick, List.filterMap_cons, List.filterMap_nil, List.getElem?_cons_zero, List.getElem?_cons_succ]; (repeat (show wpQuiet _ _ _ _ (_ :: _) _; go_big_quiet_step (fail))); refine wpQuiet_nil ?_)
    go_wp2_with fail
    (dsimp only [wpList, SegQ]; refine ⟨fun w' => ∃ d : Wd (On w4), w' = d.w, ClsW.mk (h45), fun _ h => h, ?_⟩; unfold wpMix; simp only [pick, List.filterMap_cons, List.filterMap_nil, List.getElem?_cons_zero, List.getElem?_cons_succ]; (repeat (show wpQuiet _ _ _ _ (_ :: _) _; go_big_quiet_step (fail))); refine wpQuiet_nil ?_)
    clear h45 y7 z7 z8 z9
    go_wp2_with fail
    dsimp only [wpList, SegQ]
    generalize hw6 : w5.setCell ⟨g, 7, none⟩ (.map (some m5)) = w6 at *
    clear hw6 x7 x7f
    go_wp2_with fail
    go_ret
    unfold StOut
    rw [HS.out]
    obtain ⟨B6, O6, hw5, hm5, hM5, hz5⟩ := H6.out
    have hO : Only (· = g) w w6 := (Only.of_below hw5).tr O6
    have hz4 := H4.out.2.size
    have hzd : w4.drew.heap.size = w4.heap.size := rfl
    have hI6 := (HB.out.2.same (Same.of_only hO fun k hk e => HH.out.2.1 (e ▸ hk))).mono (Q := fun k => P k ∨ w.heap.size ≤ k) fun k hk => .inl hk
    have hnd := HB.out.2.outcomes.1
    refine ⟨rfl, ⟨_, B6, ⟨hI6.fit, hI6.ring, hI6.table, hI6.held, ?_, hI6.decided, hI6.frozen, hI6.log⟩⟩, hO⟩
    show MpAt _ _ _ _ _ _ (delA r.tx s.outcomes)
    rw [HREP.out.2.1] at hnd ⊢
    exact MpAt.without_ hnd (fun p hp => OutcomeR.mono (OutcomeR.same (HREP.out.1 p hp) (Same.of_only hO fun k hk e => HH.out.2.1 (e ▸ hk))) fun k hk _ => .inl hk) (hM5.only O6 (fun e => by have e' : m5 = g := e; omega)) (.inr (by omega))

set_option maxRecDepth 20000 in
set_option maxHeartbeats 3200000 in
theorem outcome_any (g : Nat) (s : St) (r : Rec) (nA pA sA : Option Addr) (nc pc sc : Nat) (P Q : Nat → Prop) (w : World) (h : StAt w P g s) (hg : ¬ P g)
    (hr : RecAt w Q r nA nc pA pc sA sc) (hln : r.nodes.length ≤ 1000000) :
    Calls Tryz.prog 75 #[ptrV g, .agg (r.cells nA nc pA pc sA sc).toArray] w (StOut w P g (outcomeS s r)) := by
  have hgl := h.lt
  have HH := Lib.hid (And.intro h (And.intro hg hr))
  clear h hg hr
  have hb1 := (Below.refl w.heap.size w).al (.cells (r.cells nA nc pA pc sA sc).toArray 43)
  have B0 := Blk.new w 43 (r.cells nA nc pA pc sA sc)
  have hs1 : (w.alloc (.cells (r.cells nA nc pA pc sA sc).toArray 43)).heap.size = w.heap.size + 1 := by simp
  unfold ptrV
  go_enter Tryz.func75, Tryz.ntmps75
  go_upto_region 1 with fail
  refine forget (M := fun W => Code.wp _ _ _ _ W) (fun W => Below w.heap.size w W ∧ Blk W w.heap.size 43 (r.cells nA nc pA pc sA sc) ∧ W.heap.size = w.heap.size + 1) ⟨hb1, B0, hs1⟩ ?_
  clear B0 hb1 hs1
  rintro w1 ⟨hb1, B0, hs1⟩
  obtain ⟨v, hB, hI⟩ := HH.out.1
  have HB := Lib.hid (And.intro hB hI)
  obtain ⟨LA, hMV, hrep, hlA⟩ := hI.outcomes.mapV
  have hho := outcome_of hrep r.tx
  rw [← hlA] at hho
  have y7 := On.cell ((hB.ext hb1).cell 7 : w1.cell? ⟨g, 7, none⟩ = some v.outcomes)
  have z7 := On.cell (B0.cell 7 : w1.cell? ⟨w.heap.size, 7, none⟩ = some (.int .i64 r.tx.node))
  have z8 := On.cell (B0.cell 8 : w1.cell? ⟨w.heap.size, 8, none⟩ = some (.int .i64 r.tx.life))
  have z9 := On.cell (B0.cell 9 : w1.cell? ⟨w.heap.size, 9, none⟩ = some (.int .i64 r.tx.num))
  have HMV := Lib.hid (fun (W : World) (hW : ∃ d : Wd (On w1), W = d.w) => (show MapV W v.outcomes (LA.map fun p => (p.1, aggV p.2.2)) from by obtain ⟨d, rfl⟩ := hW; exact hMV.ext (hb1.tr d.ok)))
  have HMW := Lib.hid (fun (W : World) (hW : Below w.heap.size w W) => (show MapV W v.outcomes (LA.map fun p => (p.1, aggV p.2.2)) from hMV.ext hW))
  have H1 := Lib.hid (And.intro hb1 (And.intro B0 hs1))
  have HREP := Lib.hid (And.intro hrep (And.intro hlA hMV))
  clear hB hI hMV hb1 B0 hs1 hrep hlA
  refine wp_region_mix (.seg [0, 1, 2, 3, 4, 5, 6, 7, 8, 9] 10 (.seg [] 11 (.leaf [12]))) (fun w' => ∃ d : Wd (On w1), w' = d.w) (by kernel_rfl) (by kernel_rfl) (fun _ _ d _ _ h => by cases d <;> exact h) (ClsW.mk (Below.refl _ _).drew) ?_
  unfold wpMix; simp only [pick, List.filterMap_cons, List.filterMap_nil, List.getElem?_cons_zero, List.getElem?_cons_succ]
  rcases hho with ⟨hg0, hq⟩ | ⟨hh, uA, uc, hg1, hq⟩
  · have HS0 := Lib.hid (show outcomeS s r = if (r.nodes.any farN) = true then (s, 1) else ({ s with outcomes := putA r.tx ⟨r.tx, r.yes, r.stamp, r.nodes⟩ s.outcomes }, 0) from by unfold outcomeS; rw [hg0, if_neg (by simp)]; rfl)
    clear hg0
    (repeat (show wpQuiet _ _ _ _ (_ :: _) _; first | (refine wpQuiet_lookup_v none rfl (.tmp 11) (.tmp 13) 138 true rfl Tryz.underlying138 rfl HMV.out r.tx rfl hq _ zero_outcome ?_; simp only [Option.getD_none, Option.isSome_none, if_true]; go_simp) | go_big_quiet_step (fail))); refine wpQuiet_nil ?_
    go_wp2_with fail
    (dsimp only [wpList, SegQ]; refine ⟨fun w' => ∃ d : Wd (On w1), w' = d.w, ClsW.mk (by unfold On; repeat (with_reducible first | assumption | exact Below.refl _ _ | refine Below.al ?_ _ | refine Below.drew ?_ | apply Below.st1)), fun _ h => h, ?_⟩; unfold wpMix; simp only [pick, List.filterMap_cons, List.filterMap_nil, List.getElem?_cons_zero, List.getElem?_cons_succ]; (repeat (show wpQuiet _ _ _ _ (_ :: _) _; go_big_quiet_step (fail))); refine wpQuiet_nil ?_)
    go_wp2_with fail
    (dsimp only [wpList, SegQ]; refine ⟨fun w' => ∃ d : Wd (On w1), w' = d.w, ClsW.mk (by unfold On; repeat (with_reducible first | assumption | exact Below.refl _ _ | refine Below.al ?_ _ | refine Below.drew ?_ | apply Below.st1)), fun _ h => h, ?_⟩; unfold wpMix; simp only [pick, List.filterMap_cons, List.filterMap_nil, List.getElem?_cons_zero, List.getElem?_cons_succ]; (repeat (show wpQuiet _ _ _ _ (_ :: _) _; go_big_quiet_step (fail))); refine wpQuiet_nil ?_)
    go_upto_region 4 with fail
    have h14 : Below w1.heap.size w1 ((w1.alloc (.cells #[.int .i64 0, .int .i64 0, .int .i64 0, .bool false, .int .i64 0, .int .i64 0, .int .i64 0, .slice none 0 0] 178)).drew) := by repeat (with_reducible first | assumption | exact Below.refl _ _ | refine Below.al ?_ _ | refine Below.drew ?_ | apply Below.st1)
    generalize hw4 : ((w1.alloc (.cells #[.int .i64 0, .int .i64 0, .int .i64 0, .bool false, .int .i64 0, .int .i64 0, .int .i64 0, .slice none 0 0] 178)).drew) = w4 at *
    clear hw4 hq y7 z7 z8 z9
    have hw4 := H1.out.1.tr h14
    have B4 := H1.out.2.1.ext h14
    have x10 : w4.cell? ⟨w.heap.size, 10, none⟩ = some (.slice nA r.nodes.length nc) := B4.cell 10
    have hrow4 := (HH.out.2.2.nodes.2.2.ext hw4).mono (Q := fun k => k < w4.heap.size) (fun k _ hk => hk)
    have CN := hasF_int 151 [] farN enters_far nA nc r.nodes _ w4 hrow4 (by omega) (fun a cs W ha hra hb => by
      obtain ⟨rfl, _⟩ := hra
      exact (farNode_any a W).mono fun e w' ⟨h1, h2⟩ => ⟨h1, h2 ▸ Below.refl _ _⟩)
    have H4 := Lib.hid (And.intro h14 (And.intro hw4 hrow4))
    clear h14 hw4 B4 hrow4
    go_wp2_with fail
    refine CN.mono ?_
    clear CN x10
    cases hq : r.nodes.any farN
    · have HS := Lib.hid (show outcomeS s r = ({ s with outcomes := putA r.tx ⟨r.tx, r.yes, r.stamp, r.nodes⟩ s.outcomes }, 0) from by rw [HS0.out, if_neg (by rw [hq]; simp)])
      clear hq
      rintro e w5 ⟨rfl, hb5⟩
      have h15 := H4.out.1.tr hb5
      have hw5 := H4.out.2.1.tr hb5
      have B5 := H1.out.2.1.ext h15
      have u7 := On.cell ((HB.out.1.ext hw5).cell 7 : w5.cell? ⟨g, 7, none⟩ = some v.outcomes)
      have z7 := On.cell (B5.cell 7 : w5.cell? ⟨w.heap.size, 7, none⟩ = some (.int .i64 r.tx.node))
      have z8 := On.cell (B5.cell 8 : w5.cell? ⟨w.heap.size, 8, none⟩ = some (.int .i64 r.tx.life))
      have z9 := On.cell (B5.cell 9 : w5.cell? ⟨w.heap.size, 9, none⟩ = some (.int .i64 r.tx.num))
      have z3 := On.cell (B5.cell 3 : w5.cell? ⟨w.heap.size, 3, none⟩ = some (.bool r.yes))
      have z4 := On.cell (B5.cell 4 : w5.cell? ⟨w.heap.size, 4, none⟩ = some (.int .i64 r.stamp.wall))
      have z5 := On.cell (B5.cell 5 : w5.cell? ⟨w.heap.size, 5, none⟩ = some (.int .i64 r.stamp.logic))
      have z6 := On.cell (B5.cell 6 : w5.cell? ⟨w.heap.size, 6, none⟩ = some (.int .i64 r.stamp.node))
      have z10 := On.cell (B5.cell 10 : w5.cell? ⟨w.heap.size, 10, none⟩ = some (.slice nA r.nodes.length nc))
      have H5 := Lib.hid (And.intro hw5 (H4.out.2.2.ext hb5))
      clear h15 hw5 B5 hb5
      go_upto_region 6 with fail
      refine wp_region_mix (.seg [0, 1, 2, 3, 4, 5, 6, 7, 8, 9, 10, 11, 12, 13, 14] 15 (.seg [] 16 (.seg [] 17 (.seg [] 18 (.last [19] 20))))) (fun w' => ∃ d : Wd (On w5), w' = d.w) (by kernel_rfl) (by kernel_rfl) (fun _ _ d _ _ h => by cases d <;> exact h) (ClsW.mk (Below.refl _ _).drew) ?_
      unfold wpMix; simp only [pick, List.filterMap_cons, List.filterMap_nil, List.getElem?_cons_zero, List.getElem?_cons_succ]
      (repeat (show wpQuiet _ _ _ _ (_ :: _) _; go_big_quiet_step (fail))); refine wpQuiet_nil ?_
      have hd5 : Below w5.heap.size w5 w5.drew := (Below.refl _ _).drew
      have CC := clone_int nA nc r.nodes _ w5.drew (H5.out.2.ext hd5) (by omega)
      unfold GotOwn at CC
      go_wp2_with fail
      refine CC.mono ?_
      clear CC
      rintro e w6 ⟨⟨v6, rfl, hv6⟩, hb6⟩
      obtain ⟨A6, c6, rfl, hc6, hc6m⟩ := hv6.form
      have h56 := hd5.tr hb6
      go_wp2_with fail
      (dsimp only [wpList, SegQ]; refine ⟨fun w' => ∃ d : Wd (On w5), w' = d.w, ClsW.mk (h56), fun _ h => h, ?_⟩; unfold wpMix; simp only [pick, List.filterMap_cons, List.filterMap_nil, List.getElem?_cons_zero, List.getElem?_cons_succ]; (repeat (show wpQuiet _ _ _ _ (_ :: _) _; go_big_quiet_step (fail))); refine wpQuiet_nil ?_)
      go_wp2_with fail
      (dsimp only [wpList, SegQ]; refine ⟨fun w' => ∃ d : Wd (On w5), w' = d.w, ClsW.mk (h56), fun _ h => h, ?_⟩; unfold wpMix; simp only [pick, List.filterMap_cons, List.filterMap_nil, List.getElem?_cons_zero, List.getElem?_cons_succ]; (repeat (show wpQuiet _ _ _ _ (_ :: _) _; go_big_quiet_step (fail))); refine wpQuiet_nil ?_)
      have CW := withO_any v.outcomes _ r.tx r.tx.node r.tx.life r.tx.num r.stamp.wall r.stamp.logic r.stamp.node r.yes A6 r.nodes.length c6 w6 (HMW.out w6 (H5.out.1.tr h56))
      unfold txE at CW
      go_wp2_with fail
      refine CW.mono ?_
      clear CW
      rintro e w8 ⟨⟨m8, rfl, hm8, hM8⟩, hb8⟩
      have h58 := h56.tr hb8
      have hw8 := H5.out.1.tr h58
      have x7 : w8.cell? ⟨g, 7, none⟩ = some v.outcomes := (HB.out.1.ext hw8).cell 7
      have x7f : w8.frozen? ⟨g, 7, none⟩ = false := (HB.out.1.ext hw8).frozen 7
      have hf8 := (hv6.row' (P := fun k => w5.drew.heap.size ≤ k) int_plain (fun k hk => (hv6.lt k hk).1)).ext hb8
      go_wp2_with fail
      (dsimp only [wpList, SegQ]; refine ⟨fun w' => ∃ d : Wd (On w5), w' = d.w, ClsW.mk (h58), fun _ h => h, ?_⟩; unfold wpMix; simp only [pick, List.filterMap_cons, List.filterMap_nil, List.getElem?_cons_zero, List.getElem?_cons_succ]; (repeat (show wpQuiet _ _ _ _ (_ :: _) _; go_big_quiet_step (fail))); refine wpQuiet_nil ?_)
      go_wp2_with fail
      (dsimp only [wpList, SegQ]; refine ⟨fun w' => ∃ d : Wd (On w5), w' = d.w, ClsW.mk (h58), fun _ h => h, ?_⟩; unfold wpMix; simp only [pick, List.filterMap_cons, List.filterMap_nil, List.getElem?_cons_zero, List.getElem?_cons_succ]; (repeat (show wpQuiet _ _ _ _ (_ :: _) _; go_big_quiet_step (fail))); refine wpQuiet_nil ?_)
      have B9 : Blk (w8.setCell ⟨g, 7, none⟩ (.map (some m8))) g 141 (St.cells { s with outcomes := putA r.tx ⟨r.tx, r.yes, r.stamp, r.nodes⟩ s.outcomes } { v with outcomes := .map (some m8) }) := (HB.out.1.ext hw8).set_ 7 (.map (some m8))
      have O9 : Only (fun k => k = g) w8 (w8.setCell ⟨g, 7, none⟩ (.map (some m8))) := Only.set_ (F := fun k => k = g) rfl _
      have H9 := Lib.hid (And.intro B9 (And.intro O9 (And.intro hw8 (And.intro hf8 (And.intro hc6 hc6m)))))
      have HM8 := Lib.hid (And.intro hm8 (And.intro hM8 (And.intro h58 h56.size)))
      clear B9 O9 hw8 hf8 hm8 hM8 h58 hb8 h56 hb6 hd5 hv6 hc6 hc6m
      go_wp2_with fail
      dsimp only [wpList, SegQ]
      generalize hw9 : w8.setCell ⟨g, 7, none⟩ (.map (some m8)) = w9 at *
      clear hw9 x7 x7f u7 z3 z4 z5 z6 z7 z8 z9 z10
      go_wp2_with fail
      go_ret
      unfold StOut
      rw [HS.out]
      obtain ⟨B9, O9, hw8, hf8, hc6, hc6m⟩ := H9.out
      obtain ⟨hm8, hM8, h58, hz6⟩ := HM8.out
      have hO : Only (· = g) w w9 := (Only.of_below hw8).tr O9
      have hI9 := (HB.out.2.same (Same.of_only hO fun k hk e => HH.out.2.1 (e ▸ hk))).mono (Q := fun k => P k ∨ w.heap.size ≤ k) fun k hk => .inl hk
      have hz5 := H5.out.1.size
      have hzd : w5.drew.heap.size = w5.heap.size := rfl
      have hnd := HB.out.2.outcomes.1
      refine ⟨rfl, ⟨_, B9, ⟨hI9.fit, hI9.ring, hI9.table, hI9.held, ?_, hI9.decided, hI9.frozen, hI9.log⟩⟩, hO⟩
      show MpAt _ _ _ _ _ _ (putA r.tx _ s.outcomes)
      rw [HREP.out.2.1] at hnd ⊢
      refine MpAt.with_ (cs := Outcome.cellsV ⟨r.tx, r.yes, r.stamp, r.nodes⟩ A6 c6) hnd (fun p hp => OutcomeR.mono (OutcomeR.same (HREP.out.1 p hp) (Same.of_only hO fun k hk e => HH.out.2.1 (e ▸ hk))) fun k hk _ => .inl hk) (hM8.only O9 (fun e => by have e' : m8 = g := e; omega)) ?_ (.inr (by omega))
      refine outcome_rep.2 ⟨A6, c6, rfl, HH.out.2.2.tx, HH.out.2.2.stamp, ⟨hc6, hc6m, ?_⟩⟩
      exact (hf8.same (Same.of_only O9 fun k hk e => by have e' : k = g := e; omega) O9.size).mono fun k hk _ => .inr (by omega)
    · have HS := Lib.hid (show outcomeS s r = (s, 1) from by rw [HS0.out, if_pos hq])
      clear hq
      rintro e w5 ⟨rfl, hb5⟩
      have H5 := Lib.hid (H4.out.2.1.tr hb5)
      clear hb5
      go_wp2_with fail
      go_ret
      unfold StOut
      rw [HS.out]
      exact ⟨rfl, ⟨v, HB.out.1.ext H5.out, (HB.out.2.same (Same.of_below H5.out)).mono fun k hk => .inl hk⟩, Only.of_below H5.out⟩
  · have HS := Lib.hid (show outcomeS s r = (s, 11) from by unfold outcomeS; rw [hg1]; rfl)
    clear hg1
    (repeat (show wpQuiet _ _ _ _ (_ :: _) _; first | (refine wpQuiet_lookup_v _ rfl (.tmp 11) (.tmp 13) 138 true rfl Tryz.underlying138 rfl HMV.out r.tx rfl hq _ zero_outcome ?_; simp only [Option.getD_some, Option.isSome_some, if_true]; unfold Outcome.cellsV; go_simp) | go_big_quiet_step (fail))); refine wpQuiet_nil ?_
    go_wp2_with fail
    (dsimp only [wpList, SegQ]; refine ⟨fun w' => ∃ d : Wd (On w1), w' = d.w, ClsW.mk (by unfold On; repeat (with_reducible first | assumption | exact Below.refl _ _ | refine Below.al ?_ _ | refine Below.drew ?_ | apply Below.st1)), fun _ h => h, ?_⟩; unfold wpMix; simp only [pick, List.filterMap_cons, List.filterMap_nil, List.getElem?_cons_zero, List.getElem?_cons_succ]; (repeat (show wpQuiet _ _ _ _ (_ :: _) _; go_big_quiet_step (fail))); refine wpQuiet_nil ?_)
    go_wp2_with fail
    (dsimp only [wpList, SegQ]; refine ⟨fun w' => ∃ d : Wd (On w1), w' = d.w, ClsW.mk (by unfold On; repeat (with_reducible first | assumption | exact Below.refl _ _ | refine Below.al ?_ _ | refine Below.drew ?_ | apply Below.st1)), fun _ h => h, ?_⟩; unfold wpMix; simp only [pick, List.filterMap_cons, List.filterMap_nil, List.getElem?_cons_zero, List.getElem?_cons_succ]; (repeat (show wpQuiet _ _ _ _ (_ :: _) _; go_big_quiet_step (fail))); refine wpQuiet_nil ?_)
    go_wp2_with fail
    go_ret
    unfold StOut
    rw [HS.out]
    have hb4 : Below w.heap.size w ((w1.alloc (.cells #[.int .i64 hh.tx.node, .int .i64 hh.tx.life, .int .i64 hh.tx.num, .bool hh.yes, .int .i64 hh.stamp.wall, .int .i64 hh.stamp.logic, .int .i64 hh.stamp.node, .slice uA hh.nodes.length uc] 178)).drew) := (H1.out.1.al _).drew
    exact ⟨rfl, ⟨v, HB.out.1.ext hb4, (HB.out.2.same (Same.of_below hb4)).mono fun k hk => .inl hk⟩, Only.of_below hb4⟩
end Go.Proofs.YtpgocpodhamibaaGreatDoor
namespace Go.Proofs.YtpgocpodhamibaaGreatDoor
open Go.RowKit

theorem doS_6 {s : St} {r : Rec} (h : r.kind = 6) : doS s r = outcomeS s r := by unfold doS; rw [h]; rfl
theorem doS_7 {s : St} {r : Rec} (h : r.kind = 7) : doS s r = forgetS s r := by unfold doS; rw [h]; rfl
theorem outcome_out (g : Nat) (s : St) (r : Rec) (nA pA sA : Option Addr) (nc pc sc : Nat) (P Q : Nat → Prop) (w : World) (h : StAt w P g s) (hg : ¬ P g) (_hF : Fit s)
    (hr : RecAt w Q r nA nc pA pc sA sc) (_hQ : ¬ Q g) (hln : r.nodes.length ≤ 1000000) (_hd : ∀ p ∈ r.batch.puts, p.data.length ≤ 1000000) (_hT : Tabs w) (_h2 : 2 ≤ g) :
    Calls Tryz.prog 75 #[ptrV g, .agg (r.cells nA nc pA pc sA sc).toArray] w (StOut w P g (outcomeS s r)) :=
  outcome_any g s r nA pA sA nc pc sc P Q w h hg hr hln
theorem forget_out (g : Nat) (s : St) (r : Rec) (nA pA sA : Option Addr) (nc pc sc : Nat) (P Q : Nat → Prop) (w : World) (h : StAt w P g s) (hg : ¬ P g) (_hF : Fit s)
    (hr : RecAt w Q r nA nc pA pc sA sc) (_hQ : ¬ Q g) (hln : r.nodes.length ≤ 1000000) (_hd : ∀ p ∈ r.batch.puts, p.data.length ≤ 1000000) (_hT : Tabs w) (_h2 : 2 ≤ g) :
    Calls Tryz.prog 76 #[ptrV g, .agg (r.cells nA nc pA pc sA sc).toArray] w (StOut w P g (forgetS s r)) :=
  forget_any g s r nA pA sA nc pc sc P Q w h hg hr hln

set_option maxRecDepth 20000 in
set_option maxHeartbeats 3200000 in
theorem applyK_6 (g : Nat) (s : St) (r : Rec) (nA pA sA : Option Addr) (nc pc sc : Nat) (P Q : Nat → Prop) (w : World) (h : StAt w P g s) (hg : ¬ P g) (hS : Fit s)
    (hr : RecAt w Q r nA nc pA pc sA sc) (hQ : ¬ Q g) (hF : r.Fair) (hT : Tabs w) (h2 : 2 ≤ g) (h3 : r.kind = 6) :
    Calls Tryz.prog 17 #[ptrV g, .agg (r.cells nA nc pA pc sA sc).toArray] w (StOut w P g (applyS s r)) := by
  have hgl := h.lt
  have HH := Lib.hid (And.intro h (And.intro hg (And.intro hS (And.intro hr (And.intro hQ (And.intro hF hT))))))
  clear h hg hS hr hQ hF hT
  have hb1 := (Below.refl w.heap.size w).al (.cells (r.cells nA nc pA pc sA sc).toArray 43)
  have B0 := Blk.new w 43 (r.cells nA nc pA pc sA sc)
  have hs1 : (w.alloc (.cells (r.cells nA nc pA pc sA sc).toArray 43)).heap.size = w.heap.size + 1 := by simp
  unfold ptrV
  go_enter Tryz.func17, Tryz.ntmps17
  go_upto_region 1 with fail
  refine forget (M := fun W => Code.wp _ _ _ _ W) (fun W => Below w.heap.size w W ∧ Blk W w.heap.size 43 (r.cells nA nc pA pc sA sc) ∧ W.heap.size = w.heap.size + 1) ⟨hb1, B0, hs1⟩ ?_
  clear B0 hb1 hs1
  rintro w1 ⟨hb1, B0, hs1⟩
  obtain ⟨v, hB, hI⟩ := HH.out.1
  have C1 := gone_any g s.self w1 ((hB.ext hb1).cell 0) HH.out.2.2.1.self
  have C2 := recCheck_any r nA pA sA nc pc sc Q w1 (HH.out.2.2.2.1.ext (Same.of_below hb1) hb1.size) HH.out.2.2.2.2.2.1 (HH.out.2.2.2.2.2.2.below hb1) (by omega)
  unfold ptrV at C1
  have H1 := Lib.hid (And.intro hb1 hs1)
  clear hB hI hb1
  go_wp2_with fail
  refine C1.mono ?_
  clear C1
  rintro e w' ⟨rfl, rfl⟩
  go_wp2_with (first
    | ((with_reducible refine wpList_load_blk rfl rfl ?_ B0 Tryz.underlying43 rfl (by kernel_rfl) ?_); · rfl)
    | fail)
  refine C2.mono ?_
  clear C2
  rintro e w2 ⟨rfl, hb2⟩
  have B2 := B0.ext hb2
  have hw2 := H1.out.1.tr hb2
  by_cases hc : checkR r = 0
  · have HC := Lib.hid (show applyS s r = outcomeS s r from by unfold applyS; rw [if_neg (by rw [hc]; simp)]; exact doS_6 h3)
    rw [hc]
    have x0 : w2.cell? ⟨w.heap.size, 0, none⟩ = some (.int .i64 r.kind) := B2.cell 0
    rw [h3] at x0
    obtain ⟨v, hB, hI⟩ := HH.out.1
    have C3 := outcome_out g s r nA pA sA nc pc sc P (fun k => Q k ∧ k < w.heap.size) w2 ⟨v, hB.ext hw2, hI.same (Same.of_below hw2)⟩ HH.out.2.1 HH.out.2.2.1
      ((HH.out.2.2.2.1.mono fun k h h' => (⟨h, h'⟩ : Q k ∧ k < w.heap.size)).ext (Same.of_below hw2) hw2.size) (fun h => HH.out.2.2.2.2.1 h.1) HH.out.2.2.2.2.2.1.nodes HH.out.2.2.2.2.2.1.data (HH.out.2.2.2.2.2.2.below hw2) h2
    unfold ptrV at C3
    have H2 := Lib.hid hw2
    clear hc hB hI hb2 hw2 B0
    go_wp2_with (first
      | ((with_reducible refine wpList_load_blk rfl rfl ?_ B2 Tryz.underlying43 rfl (by kernel_rfl) ?_); · rfl)
      | fail)
    refine C3.mono ?_
    clear C3 x0 B2
    rintro e w3 ⟨rfl, hst, hO⟩
    have H3 := Lib.hid (And.intro hst hO)
    clear hst hO
    go_wp2_with fail
    go_ret
    unfold StOut
    rw [HC.out]
    obtain ⟨v', a1, a2⟩ := H3.out.1
    exact ⟨rfl, ⟨v', a1, a2.mono fun k hk => by
      rcases hk with h | h
      · exact .inl h
      · exact .inr (by have := H2.out.size; omega)⟩, (Only.of_below H2.out).tr H3.out.2⟩
  · have HC := Lib.hid (show applyS s r = (s, checkR r) from by unfold applyS; rw [if_pos hc])
    have hc' : (checkR r != 0) = true := bne_iff_ne.2 hc
    obtain ⟨v, hB, hI⟩ := HH.out.1
    have H3 := Lib.hid (And.intro (⟨v, hB.ext hw2, hI.same (Same.of_below hw2)⟩ : StAt w2 P g s) hw2)
    clear hc hB hI hb2 hw2 B0 B2
    go_wp2_with fail
    go_ret
    unfold StOut
    rw [HC.out]
    obtain ⟨v', a1, a2⟩ := H3.out.1
    exact ⟨rfl, ⟨v', a1, a2.mono fun k hk => .inl hk⟩, Only.of_below H3.out.2⟩
set_option maxRecDepth 20000 in
set_option maxHeartbeats 3200000 in
theorem applyK_7 (g : Nat) (s : St) (r : Rec) (nA pA sA : Option Addr) (nc pc sc : Nat) (P Q : Nat → Prop) (w : World) (h : StAt w P g s) (hg : ¬ P g) (hS : Fit s)
    (hr : RecAt w Q r nA nc pA pc sA sc) (hQ : ¬ Q g) (hF : r.Fair) (hT : Tabs w) (h2 : 2 ≤ g) (h3 : r.kind = 7) :
    Calls Tryz.prog 17 #[ptrV g, .agg (r.cells nA nc pA pc sA sc).toArray] w (StOut w P g (applyS s r)) := by
  have hgl := h.lt
  have HH := Lib.hid (And.intro h (And.intro hg (And.intro hS (And.intro hr (And.intro hQ (And.intro hF hT))))))
  clear h hg hS hr hQ hF hT
  have hb1 := (Below.refl w.heap.size w).al (.cells (r.cells nA nc pA pc sA sc).toArray 43)
  have B0 := Blk.new w 43 (r.cells nA nc pA pc sA sc)
  have hs1 : (w.alloc (.cells (r.cells nA nc pA pc sA sc).toArray 43)).heap.size = w.heap.size + 1 := by simp
  unfold ptrV
  go_enter Tryz.func17, Tryz.ntmps17
  go_upto_region 1 with fail
  refine forget (M := fun W => Code.wp _ _ _ _ W) (fun W => Below w.heap.size w W ∧ Blk W w.heap.size 43 (r.cells nA nc pA pc sA sc) ∧ W.heap.size = w.heap.size + 1) ⟨hb1, B0, hs1⟩ ?_
  clear B0 hb1 hs1
  rintro w1 ⟨hb1, B0, hs1⟩
  obtain ⟨v, hB, hI⟩ := HH.out.1
  have C1 := gone_any g s.self w1 ((hB.ext hb1).cell 0) HH.out.2.2.1.self
  have C2 := recCheck_any r nA pA sA nc pc sc Q w1 (HH.out.2.2.2.1.ext (Same.of_below hb1) hb1.size) HH.out.2.2.2.2.2.1 (HH.out.2.2.2.2.2.2.below hb1) (by omega)
  unfold ptrV at C1
  have H1 := Lib.hid (And.intro hb1 hs1)
  clear hB hI hb1
  go_wp2_with fail
  refine C1.mono ?_
  clear C1
  rintro e w' ⟨rfl, rfl⟩
  go_wp2_with (first
    | ((with_reducible refine wpList_load_blk rfl rfl ?_ B0 Tryz.underlying43 rfl (by kernel_rfl) ?_); · rfl)
    | fail)
  refine C2.mono ?_
  clear C2
  rintro e w2 ⟨rfl, hb2⟩
  have B2 := B0.ext hb2
  have hw2 := H1.out.1.tr hb2
  by_cases hc : checkR r = 0
  · have HC := Lib.hid (show applyS s r = forgetS s r from by unfold applyS; rw [if_neg (by rw [hc]; simp)]; exact doS_7 h3)
    rw [hc]
    have x0 : w2.cell? ⟨w.heap.size, 0, none⟩ = some (.int .i64 r.kind) := B2.cell 0
    rw [h3] at x0
    obtain ⟨v, hB, hI⟩ := HH.out.1
    have C3 := forget_out g s r nA pA sA nc pc sc P (fun k => Q k ∧ k < w.heap.size) w2 ⟨v, hB.ext hw2, hI.same (Same.of_below hw2)⟩ HH.out.2.1 HH.out.2.2.1
      ((HH.out.2.2.2.1.mono fun k h h' => (⟨h, h'⟩ : Q k ∧ k < w.heap.size)).ext (Same.of_below hw2) hw2.size) (fun h => HH.out.2.2.2.2.1 h.1) HH.out.2.2.2.2.2.1.nodes HH.out.2.2.2.2.2.1.data (HH.out.2.2.2.2.2.2.below hw2) h2
    unfold ptrV at C3
    have H2 := Lib.hid hw2
    clear hc hB hI hb2 hw2 B0
    go_wp2_with (first
      | ((with_reducible refine wpList_load_blk rfl rfl ?_ B2 Tryz.underlying43 rfl (by kernel_rfl) ?_); · rfl)
      | fail)
    refine C3.mono ?_
    clear C3 x0 B2
    rintro e w3 ⟨rfl, hst, hO⟩
    have H3 := Lib.hid (And.intro hst hO)
    clear hst hO
    go_wp2_with fail
    go_ret
    unfold StOut
    rw [HC.out]
    obtain ⟨v', a1, a2⟩ := H3.out.1
    exact ⟨rfl, ⟨v', a1, a2.mono fun k hk => by
      rcases hk with h | h
      · exact .inl h
      · exact .inr (by have := H2.out.size; omega)⟩, (Only.of_below H2.out).tr H3.out.2⟩
  · have HC := Lib.hid (show applyS s r = (s, checkR r) from by unfold applyS; rw [if_pos hc])
    have hc' : (checkR r != 0) = true := bne_iff_ne.2 hc
    obtain ⟨v, hB, hI⟩ := HH.out.1
    have H3 := Lib.hid (And.intro (⟨v, hB.ext hw2, hI.same (Same.of_below hw2)⟩ : StAt w2 P g s) hw2)
    clear hc hB hI hb2 hw2 B0 B2
    go_wp2_with fail
    go_ret
    unfold StOut
    rw [HC.out]
    obtain ⟨v', a1, a2⟩ := H3.out.1
    exact ⟨rfl, ⟨v', a1, a2.mono fun k hk => .inl hk⟩, Only.of_below H3.out.2⟩
end Go.Proofs.YtpgocpodhamibaaGreatDoor
