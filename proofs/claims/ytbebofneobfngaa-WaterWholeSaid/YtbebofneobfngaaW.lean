/- The whole of a log, taken in steps: the law's walk. -/
import Derived.Test.YtbebofneobfngaaK
namespace Go.Proofs.Ytbebofneobfngaa
open Go.RowKit
attribute [local go_sem] St.cells St.val Peer.cells headC

/-- A table of two, its one other row known. -/
structure Duo (T : Tab) (ev : Value) (q : Nat) (m : St) : Prop where
  self : T.self = 1
  len : T.ps.length = 3
  at2 : T.ps[2]? = some ⟨ev, q, m⟩

theorem duo0 : Duo (tab0 1 2) (.slice none 0 0) 0 ⟨0, 0, 0⟩ := ⟨rfl, rfl, rfl⟩
theorem Duo.oth {T : Tab} {ev : Value} {q : Nat} {m : St} (h : Duo T ev q m) : othB T 2 = true ∧ othB T 1 = false ∧ othB T 0 = false := by
  unfold othB; rw [h.self, h.len]; decide
theorem Duo.next {T : Tab} {ev : Value} {q : Nat} {m : St} (h : Duo T ev q m) : nextT T 2 = q := by
  have ho : otherB T.self T.ps.length 2 = true := h.oth.1
  unfold nextT
  rw [if_pos ho]
  show (match T.ps[2]? with | some p => (p.n : Int) | none => 0) = (q : Int)
  rw [h.at2]
theorem Duo.water {T : Tab} {ev : Value} {q : Nat} {m : St} (h : Duo T ev q m) (own : St) : waterT T own = minS own m := by
  obtain ⟨o2, o1, o0⟩ := h.oth
  have hl := h.len
  have e0 : T.ps[0]? = some (T.ps[0]'(by omega)) := List.getElem?_eq_getElem (by omega)
  have e1 : T.ps[1]? = some (T.ps[1]'(by omega)) := List.getElem?_eq_getElem (by omega)
  unfold waterT
  rw [hl]
  simp only [waterK, e0, e1, h.at2, o0, o1, o2, if_true, Bool.false_eq_true, if_false]
theorem Duo.put {T : Tab} {ev : Value} {q : Nat} {m : St} (h : Duo T ev q m) (ev' : Value) (q' : Nat) (m' : St) : Duo (T.put 2 ⟨ev', q', m'⟩) ev' q' m' :=
  ⟨h.self, by simp [Tab.put, h.len], by simp only [Tab.put]; rw [List.getElem?_set_self (by rw [h.len]; decide)]⟩

/-- The mark of the other, when a of n have been sent. -/
def markQ (log : Int) (a n : Nat) : St := if 0 < a ∧ n ≤ a then ⟨log, 0, 0⟩ else ⟨0, 0, 0⟩

theorem max_log (log : Int) (h : 1 ≤ log) : maxS ⟨0, 0, 0⟩ ⟨log, 0, 0⟩ = ⟨log, 0, 0⟩ := by
  rw [maxS_eq, if_pos (ord_pos.2 (by unfold leP; simp; omega))]
theorem min_zero : minS ⟨35184372088832, 0, 0⟩ ⟨0, 0, 0⟩ = ⟨0, 0, 0⟩ := by
  rw [minS_eq, if_pos (ord_neg.2 (by unfold leP; simp))]
theorem min_log (log : Int) (h : log ≤ 1099511627776) : minS ⟨35184372088832, 0, 0⟩ ⟨log, 0, 0⟩ = ⟨log, 0, 0⟩ := by
  rw [minS_eq, if_pos (ord_neg.2 (by unfold leP; simp; omega))]

theorem markQ_step (log : Int) (h : 1 ≤ log) (a n s : Nat) (hs : 1 ≤ s) (ha : a ≤ n) (hm : markQ log a n = ⟨0, 0, 0⟩) (ev : Value) :
    markOf ⟨ev, min a n, markQ log a n⟩ (min (a + s) n - a) n ⟨log, 0, 0⟩ = markQ log (a + s) n := by
  rw [hm]
  by_cases hq : n ≤ a + s
  · rw [markOf_yes (by simp only []; omega), max_log log h]
    unfold markQ
    rw [if_pos (by omega)]
  · rw [markOf_no (by simp only []; omega)]
    unfold markQ
    rw [if_neg (by omega)]

theorem own_keepR {w w' : World} {base n : Nat} {v : Value} {xs : List Value} {r : Option Nat} (h : w.ownsRow base 41 7 v n xs) (hk : KeepsR r w w') (hr : ∀ g, v.ownBlock = some g → r ≠ some g) : w'.ownsRow base 41 7 v n xs := by
  refine ⟨h.1, ?_⟩
  rcases h.2 with hn | ⟨g, cap, cur, hv, hbg, hg, rest⟩
  · exact .inl hn
  · refine .inr ⟨g, cap, cur, hv, hbg, ?_, rest⟩
    subst hv
    have := hk g 41 cur.toList (by decide) (.inr (hr g rfl)) (by unfold Blk; simpa using hg)
    unfold Blk at this; simpa using this
theorem own_cap {w : World} {base n c : Nat} {A : Option Addr} {xs : List Value} (h : w.ownsRow base 41 7 (.slice A n c) n xs) : n ≤ c := by
  rcases h.2 with ⟨hn, h0⟩ | ⟨g, cap, cur, hv, hbg, hg, hc, _⟩
  · omega
  · injection hv with _ _ h3; omega

/-- A table whose rows are all empty stays where another row of events grows. -/
theorem tab_grown {w w' : World} {base base' tb pb n : Nat} {T : Tab} {v : Value} {xs : List Value} (h : TabAt w base tb pb T) (hg : w.grownBy w' v.ownBlock) (ho : w.ownsRow base' 41 7 v n xs) (he : ∀ (i : Nat) (p : Peer), T.ps[i]? = some p → p.ev = .slice none 0 0) : TabAt w' base tb pb T :=
  ⟨h.head.grown hg (Ne.symm (own_blk_ne ho h.head (by decide))), h.row.grown hg (Ne.symm (own_blk_ne ho h.row (by decide))), h.b1, h.b2, h.few, (fun i p hp => by
    obtain ⟨h0, xs, hx⟩ := h.evs i p hp
    refine ⟨h0, xs, hx.1, ?_⟩
    rcases hx.2 with hn | ⟨g, cap, cur, hv, _⟩
    · exact .inl hn
    · rw [he i p hp] at hv; cases hv), h.apart⟩

theorem TabAt.drewN {w : World} {base tb pb : Nat} {T : Tab} (h : TabAt w base tb pb T) (q : Nat) : TabAt (w.drewN q) base tb pb T := h.ext (below_drewN (Below.refl _ _) _)
theorem nextT_q {w : World} {base tb pb q : Nat} {T : Tab} {node : Int} {v : Int} (h : TabAt (w.drewN q) base tb pb T) (hv : nextT T node = v) :
    Calls Try.prog 11 #[.pointer (some ⟨tb, 0, none⟩), .int .i64 node] (w.drewN q) fun e w'' => e = .returned (.int .i64 v) ∧ ∃ m, w'' = w.drewN m := by
  subst hv
  exact quiet_eq (nextT_any base tb pb T node _ h)

def bigS : St := ⟨35184372088832, 0, 0⟩
theorem Reads.pre {w : World} {B size n n' : Nat} {A : Option Addr} {xs : List Value} (h : Reads w B size A n xs) (hn : n' ≤ n) : Reads w B size A n' (xs.take (n' * size)) := by
  refine ⟨by rw [List.length_take, h.1]; exact Nat.min_eq_left (Nat.mul_le_mul_right _ hn), fun h0 => ?_⟩
  obtain ⟨ad, hA, hb, hc⟩ := h.2 (by omega)
  refine ⟨ad, hA, hb, fun j u hu => hc j u ?_⟩
  rw [List.getElem?_take] at hu
  split at hu
  · exact hu
  · cases hu
theorem own_slice (w : World) (A : Option Addr) (n c a m : Nat) (h1 : a ≤ m) (h2 : m ≤ c) : (Instr.slice 31 (.slice A n c) (some (.int .i64 (a : Int))) (some (.int .i64 (m : Int))) none).run Try.prog w = .ok (.slice (if c = a then A else A.map (·.add (a * 7))) (m - a) (c - a)) w := by
  have h := run_slice_lh (P := Try.prog) w 31 A n c (by kernel_rfl) .i64 .i64 (a : Int) (m : Int) (by omega) (by omega) (by omega)
  rw [h]
  have h2 : (sizeOf (Try.prog.elem 31)).run Try.prog w = .ok 7 w := by rfl
  rw [h2]
  simp only [Result.andThen, sliced, Int.toNat_natCast]

theorem take_whole (B pb : Nat) (T : Tab) (ev : Value) (a k s : Nat) (log : Int) (xs : List Value) (A0 : Option Addr) (e0 : Nat) (w3 : World) (hT : TabAt w3 B (B + 1) pb T) (hD : Duo T ev a (markQ log a k))
    (hown : w3.ownsRow B 41 7 (.slice A0 k e0) k xs) (h1 : ∀ u ∈ xs, u.oneCell' = true) (hle : a ≤ k) (hm0 : markQ log a k = ⟨0, 0, 0⟩) (hs1 : 1 ≤ s) (hl1 : 1 ≤ log) (hk : k ≤ 60) (hs : s ≤ 20) (hsz : B ≤ w3.heap.size)
    (hap : ∀ g, (Value.slice A0 k e0).ownBlock = some g → ev.ownBlock ≠ some g) (A : Option Addr) (m c : Nat) (rv : Value) (hA : A = if e0 = a then A0 else A0.map (·.add (a * 7))) (hm : m = min (a + s) k - a) :
    Calls Try.prog 12 #[.pointer (some ⟨B + 1, 0, none⟩), .int .i64 2, feedVal a k (.slice A m c) ⟨log, 0, 0⟩ rv] w3 fun e w4 => e = .returned (.bool true) ∧ ∃ (T' : Tab) (ev' : Value), Duo T' ev' (min (a + s) k) (markQ log (a + s) k) ∧ TabAt w4 B (B + 1) pb T' ∧ Below B w3 w4 ∧
      (∀ mb cs, Blk w3 mb 24 cs → Blk w4 mb 24 cs) ∧ w4.ownsRow B 41 7 (.slice A0 k e0) k xs ∧ (∀ g, (Value.slice A0 k e0).ownBlock = some g → ev'.ownBlock ≠ some g) := by
  have hc := own_cap hown
  have hR : Reads w3 w3.heap.size 7 A m ((xs.drop (a * 7)).take (m * 7)) := by
    subst hA
    exact ((Reads.of_own hown).cut hle hc).pre (by omega)
  refine (take_yes B (B + 1) pb T 2 ⟨ev, a, markQ log a k⟩ A m c _ k ⟨log, 0, 0⟩ rv w3 hT hD.at2 hD.oth.1 hR (fun u hu => h1 u (List.mem_of_mem_drop (List.mem_of_mem_take hu))) (by simp only []; omega) (by simp only []; omega) hsz).mono ?_
  rintro e w4 ⟨rfl, ev', hT4, hb4, hK4, hev4⟩
  have hms := markQ_step log hl1 a k s hs1 hle hm0 ev
  rw [← hm, show min a k = a from by omega] at hms
  have hT5 : TabAt w4 B (B + 1) pb (T.put 2 ⟨ev', min (a + s) k, markQ log (a + s) k⟩) := by
    rw [← hms, show min (a + s) k = a + m from by omega]
    exact hT4
  refine ⟨rfl, _, ev', hD.put ev' (min (a + s) k) (markQ log (a + s) k), hT5, hb4, fun mb cs h => hK4.all _ _ _ (by decide) (by decide) h, own_keepR hown hK4 hap, ?_⟩
  intro g hg he
  rcases hev4 g he with h | h
  · exact hap g hg h
  · have := (hown.lt g hg).2
    omega

attribute [local go_sem] bigS
def evA (k : Nat) : List Value := [.string ⟨#[97]⟩, .int .i64 (k + 1), .string ⟨#[]⟩, .int .i64 (k + 1), .int .i64 0, .int .i64 2, .int .i64 0]

set_option maxHeartbeats 6400000 in
theorem whole_go (n s : Nat) (log : Int) (hn : n ≤ 60) (hs1 : 1 ≤ s) (hs : s ≤ 20) (hl1 : 1 ≤ log) (hl2 : log ≤ 1099511627776) (w : World) :
    Calls Try.prog 4 #[.int .i64 n, .int .i64 s, .int .i64 log] w fun e w' => e = .returned (.bool true) ∧ Below w.heap.size w w' := by
  obtain ⟨i0, hi0, hz0, hz1, hz2⟩ := info_parts ev_info
  have hn' : (n : Int) ≤ 60 := by omega
  have hs1' : (1 : Int) ≤ s := by omega
  have hs' : (s : Int) ≤ 20 := by omega
  go_enter Try.func4, Try.ntmps4
  go_wp2_with fail
  refine (new_yes 1 2 w (by decide)).mono ?_
  rintro e w1 ⟨rfl, hT1, hb1⟩
  obtain ⟨tb, htb⟩ : ∃ t, t = w.heap.size + 1 := ⟨_, rfl⟩
  rw [← htb] at hT1 ⊢
  obtain ⟨pb, hpb⟩ : ∃ t, t = w.heap.size := ⟨_, rfl⟩
  have hT1' : TabAt w1 w.heap.size tb pb (tab0 1 2) := by rw [hpb]; exact hT1
  clear hT1
  subst htb
  go_wp2_with fail
  go_loopw [8, 9] (fun v i wr => ∃ k : Nat, k ≤ n ∧ i = .int .i64 k ∧ Below w.heap.size w wr ∧ TabAt wr w.heap.size (w.heap.size + 1) pb (tab0 1 2) ∧ ∃ xs, wr.ownsRow w.heap.size 41 7 v k xs ∧ ∀ u ∈ xs, u.oneCell' = true) (fun _ i _ => n - (intOf i).toNat)
  case atStart => exact ⟨0, Nat.zero_le _, rfl, hb1, hT1', [], World.ownsRow_nil _ _ _ _, by simp⟩
  case round =>
    obtain ⟨k, hk, rfl, hbl, hT, xs, hown, h1⟩ := hrel
    obtain ⟨A0, e0, hv0⟩ := own_form hown
    subst hv0
    by_cases hlt : k < n
    · have hlt' : (k : Int) < n := by omega
      have hsz := hbl.size
      go_wp2_with (at_builtin; go_loud (refine wpList_append_own _ rfl (.tmp 43) (.tmp 50) _ rfl w.heap.size 41 i0 _ 7 72 Try.underlying31 hi0 hz0 hz1 hz2 rfl (by omega) _ _ xs rfl (hown.alloc _) ⟨wr.heap.size, 0, none⟩ 1 1 (evA k) rfl rfl (World.news_of_block (heap_alloc_new wr _)) (by simp [evA, Value.oneCell']) (by simp only [maxLen]; omega) (by omega) (by simp; omega) ?_); intro v1 w2 hown2 hg2 _)
      go_round
      case rel =>
        refine ⟨k + 1, by omega, by go_num, ?_, ?_, xs ++ evA k, hown2, ?_⟩
        · exact (hbl.al (.cells (evA k).toArray 41)).grown hg2 (by simp; omega) (fun g hg => (hown.lt g hg).1)
        · have hTa := hT.ext ((Below.refl _ _).al (.cells (evA k).toArray 41))
          exact tab_grown hTa hg2 (hown.alloc _) (fun i p hp => by have := List.eq_of_mem_replicate (List.mem_of_getElem? hp); rw [this])
        · intro u hu
          rcases List.mem_append.1 hu with h | h
          · exact h1 u h
          · exact (by simp [evA, Value.oneCell'] : ∀ u ∈ evA k, u.oneCell' = true) u h
      case measure => simp [intOf]; omega
    · have hkn : k = n := by omega
      subst hkn
      have hc := own_cap hown
      have hsz := hbl.size
      obtain ⟨mb, hmb⟩ : ∃ mb, mb = wr.heap.size := ⟨_, rfl⟩
      have hMB : Blk (wr.alloc (.cells (St.cells bigS).toArray 24)) mb 24 (St.cells bigS) := by rw [hmb]; exact Blk.new wr 24 (St.cells bigS)
      have hD0 : Duo (tab0 1 2) (.slice none 0 0) (min 0 k) (markQ log 0 k) := by
        rw [Nat.zero_min]
        exact duo0
      clear hT1' hb1
      go_wp2_with fail
      go_loopw [11] (fun i wr2 => ∃ (a : Nat) (T : Tab) (ev : Value), i = .int .i64 a ∧ a ≤ k + s ∧ Duo T ev (min a k) (markQ log a k) ∧ TabAt wr2 w.heap.size (w.heap.size + 1) pb T ∧ Below w.heap.size w wr2 ∧ Blk wr2 mb 24 (St.cells bigS) ∧ wr2.ownsRow w.heap.size 41 7 (.slice A0 k e0) k xs ∧ (∀ g, (Value.slice A0 k e0).ownBlock = some g → ev.ownBlock ≠ some g)) (fun i _ => k + s + 1 - (intOf i).toNat)
      case atStart => exact ⟨0, tab0 1 2, .slice none 0 0, rfl, by omega, hD0, hT.ext ((Below.refl _ _).al _), hbl.al _, hMB, hown.alloc _, by simp [Value.ownBlock]⟩
      case round =>
        clear hT hbl hMB hown hD0
        subst hmb
        obtain ⟨a, T, ev, rfl, ha, hD, hT, hbl, hM, hown, hap⟩ := hrel
        have hsz := hbl.size
        by_cases hle : a ≤ k
        · have hle' : (a : Int) ≤ k := by omega
          by_cases hz : 0 < a ∧ k ≤ a
          · have hz1 : (0 : Int) < a := by omega
            have hq : nextT T 2 = (k : Int) := by rw [hD.next]; omega
            have e1 : ((k : Int) == k) = true := by simp
            have hwt : waterT T bigS = ⟨log, 0, 0⟩ := by rw [hD.water]; unfold markQ; rw [if_pos hz]; exact min_log log hl2
            go_wp2_with fail
            refine (nextT_any w.heap.size (w.heap.size + 1) pb T 2 wr hT).mono ?_
            rintro e w' ⟨rfl, rfl⟩
            rw [hq]
            have hmc := hM.cell
            go_wp2_with fail
            refine (nextT_any w.heap.size (w.heap.size + 1) pb T 2 wr hT).mono ?_
            rintro e w' ⟨rfl, rfl⟩
            rw [hq]
            go_wp2_with fail
            refine (water_any w.heap.size (w.heap.size + 1) pb T bigS _ (by exact hT) (by rw [hD.self]; rfl)).mono ?_
            rintro e w3 ⟨rfl, hb3⟩
            rw [hwt]
            go_wp2_with fail
            refine (awake_any _).mono ?_
            rintro e w4 ⟨rfl, hb4⟩
            go_wp2
            go_ret
            exact ⟨rfl, (hbl.tr hb3).tr hb4⟩
          · have hm0 : markQ log a k = ⟨0, 0, 0⟩ := if_neg hz
            have hwt : waterT T bigS = ⟨0, 0, 0⟩ := by rw [hD.water, hm0]; exact min_zero
            have hak : min a k = a := by omega
            have hq : nextT T 2 = (a : Int) := by rw [hD.next, hak]
            rw [hak] at hD
            have hmc := hM.cell
            have hsl := fun W => own_slice W A0 k e0 a (min (a + s) k) (by omega) (by omega)
            have emin : ((min (a + s) k : Nat) : Int) = min ((a : Int) + s) k := by omega
            by_cases h0 : 0 < a
            · have h0' : (0 : Int) < a := by omega
              have e1 : ((a : Int) == k) = false := by simp; omega
              go_wp2_with fail
              refine (nextT_any w.heap.size (w.heap.size + 1) pb T 2 wr hT).mono ?_
              rintro e w' ⟨rfl, rfl⟩
              rw [hq]
              go_wp2_with fail
              refine (water_any w.heap.size (w.heap.size + 1) pb T bigS _ (by exact hT) (by rw [hD.self]; rfl)).mono ?_
              rintro e w3 ⟨rfl, hb3⟩
              rw [hwt]
              have hT3 := hT.ext hb3
              have hbl3 := hbl.tr hb3
              have hM3 := hM.ext hb3
              have hown3 := hown.ext_ hb3
              clear hT hbl hM hown hb3
              have hsz3 := hbl3.size
              go_wp2_with fail
              all_goals
                refine (take_whole w.heap.size pb T ev a k s log xs A0 e0 w3 hT3 hD hown3 h1 hle hm0 hs1 hl1 hn hs hsz3 hap _ _ _ _ ?_ ?_).mono ?_
                · first | rw [if_pos ‹e0 = a›] | rw [if_neg ‹¬ e0 = a›] | rw [if_neg (by omega)] | rw [if_pos (by omega)]
                · omega
                rintro e w4 ⟨rfl, T', ev', hD4, hT4, hb4, hM4, hown4, hap4⟩
                have hbl4 := hbl3.trans hb4
                have hM5 := hM4 _ _ hM3
                clear hT3 hbl3 hM3 hown3 hM4 hb4 hap hD
                first
                | have he : e0 = a := by assumption
                  subst he
                  go_wp2_with fail
                  go_round
                  case rel => exact ⟨e0 + s, T', ev', by go_num, by omega, hD4, hT4, hbl4, hM5, hown4, hap4⟩
                  case measure => simp [intOf]; omega
                | go_wp2_with fail
                  go_round
                  case rel => exact ⟨a + s, T', ev', by go_num, by omega, hD4, hT4, hbl4, hM5, hown4, hap4⟩
                  case measure => simp [intOf]; omega
            · have h0' : ¬ (0 : Int) < a := by omega
              go_wp2_with fail
              refine (water_any w.heap.size (w.heap.size + 1) pb T bigS _ (by exact hT) (by rw [hD.self]; rfl)).mono ?_
              rintro e w3 ⟨rfl, hb3⟩
              rw [hwt]
              have hT3 := hT.ext hb3
              have hbl3 := hbl.tr hb3
              have hM3 := hM.ext hb3
              have hown3 := hown.ext_ hb3
              clear hT hbl hM hown hb3
              have hsz3 := hbl3.size
              go_wp2_with fail
              all_goals
                refine (take_whole w.heap.size pb T ev a k s log xs A0 e0 w3 hT3 hD hown3 h1 hle hm0 hs1 hl1 hn hs hsz3 hap _ _ _ _ ?_ ?_).mono ?_
                · first | rw [if_pos ‹e0 = a›] | rw [if_neg ‹¬ e0 = a›] | rw [if_neg (by omega)] | rw [if_pos (by omega)]
                · omega
                rintro e w4 ⟨rfl, T', ev', hD4, hT4, hb4, hM4, hown4, hap4⟩
                have hbl4 := hbl3.trans hb4
                have hM5 := hM4 _ _ hM3
                clear hT3 hbl3 hM3 hown3 hM4 hb4 hap hD
                first
                | have he : e0 = a := by assumption
                  subst he
                  go_wp2_with fail
                  go_round
                  case rel => exact ⟨e0 + s, T', ev', by go_num, by omega, hD4, hT4, hbl4, hM5, hown4, hap4⟩
                  case measure => simp [intOf]; omega
                | go_wp2_with fail
                  go_round
                  case rel => exact ⟨a + s, T', ev', by go_num, by omega, hD4, hT4, hbl4, hM5, hown4, hap4⟩
                  case measure => simp [intOf]; omega
        · have hle' : ¬ (a : Int) ≤ k := by omega
          have hz2 : 0 < a ∧ k ≤ a := by omega
          have hq : nextT T 2 = (k : Int) := by rw [hD.next]; omega
          have e1 : ((k : Int) == k) = true := by simp
          have hwt : waterT T bigS = ⟨log, 0, 0⟩ := by rw [hD.water]; unfold markQ; rw [if_pos hz2]; exact min_log log hl2
          have hmc := hM.cell
          go_wp2_with fail
          refine (nextT_any w.heap.size (w.heap.size + 1) pb T 2 wr hT).mono ?_
          rintro e w' ⟨rfl, rfl⟩
          rw [hq]
          go_wp2_with fail
          refine (water_any w.heap.size (w.heap.size + 1) pb T bigS _ (by exact hT) (by rw [hD.self]; rfl)).mono ?_
          rintro e w3 ⟨rfl, hb3⟩
          rw [hwt]
          go_wp2_with fail
          refine (awake_any _).mono ?_
          rintro e w4 ⟨rfl, hb4⟩
          go_wp2
          go_ret
          exact ⟨rfl, (hbl.tr hb3).tr hb4⟩
end Go.Proofs.Ytbebofneobfngaa
