/- ShellLong: every call returns true. -/
import Derived.Test.YteooccaicheleaaGreatDoorPla
import Derived.Test.YteooccaicheleaaGreatDoorKma
import Derived.Lib.AppendStr
import Derived.Lib.Hide
namespace Go.Proofs.YteooccaicheleaaGreatDoor
open Go.Shelf Go.RowKit
/-- Some bytes of the call's own. -/
def BytesAt (w0 : World) (v : Value) (l : List UInt8) (w : World) : Prop := w.ownsRow w0.heap.size 5 1 v l.length (Lib.byteCells l) ∧ Below w0.heap.size w0 w
theorem BytesAt.form {w0 w : World} {v : Value} {l : List UInt8} (h : BytesAt w0 v l w) : ∃ A c, v = .slice A l.length c ∧ c ≤ maxLen := by
  rcases h.1.2 with ⟨rfl, h1⟩ | ⟨g, cap, cur, rfl, _, _, _, h1, _⟩
  · exact ⟨none, 0, by rw [h1], by decide⟩
  · exact ⟨_, _, rfl, h1⟩
def lenOf (v : Value) : Nat := match v with | .slice _ n _ => n | _ => 0
/-- The lines that are met in the first bytes. -/
def cntK (l : List UInt8) (j : Nat) : Nat := (l.take j).count 10 + (if j = l.length ∧ l ≠ [] ∧ l.getLast? ≠ some 10 then 1 else 0)
theorem cntK_zero (l : List UInt8) : cntK l 0 = 0 := by
  unfold cntK
  rw [if_neg]
  · rfl
  · rintro ⟨h1, h2, _⟩
    exact h2 (List.length_eq_zero_iff.1 h1.symm)
theorem cntK_step (l : List UInt8) (j : Nat) (hj : j < l.length) : cntK l (j + 1) = cntK l j + (if l[j] = 10 ∨ j + 1 = l.length then 1 else 0) := by
  unfold cntK
  have ht : l.take (j + 1) = l.take j ++ [l[j]] := by rw [List.take_add_one, List.getElem?_eq_getElem hj]; rfl
  have hc : [l[j]].count 10 = if l[j] = 10 then 1 else 0 := by
    by_cases h : l[j] = 10
    · rw [h]; rfl
    · rw [if_neg h, List.count_eq_zero]; simp; exact fun e => h e.symm
  rw [ht, List.count_append, hc]
  have h0 : ¬ (j = l.length ∧ l ≠ [] ∧ l.getLast? ≠ some 10) := fun h => by omega
  have h1 : (j + 1 = l.length ∧ l ≠ [] ∧ l.getLast? ≠ some 10) ↔ (j + 1 = l.length ∧ l[j] ≠ 10) := by
    constructor
    · rintro ⟨h1, _, h3⟩
      refine ⟨h1, fun h => h3 ?_⟩
      rw [List.getLast?_eq_getElem?, show l.length - 1 = j by omega, List.getElem?_eq_getElem hj, h]
    · rintro ⟨h1, h2⟩
      refine ⟨h1, (fun e => by rw [e] at hj; cases hj), fun h => h2 ?_⟩
      rw [List.getLast?_eq_getElem?, show l.length - 1 = j by omega, List.getElem?_eq_getElem hj] at h
      exact Option.some.inj h
  rw [if_neg h0]
  generalize (l.take j).count 10 = n
  simp only [h1]
  by_cases h10 : l[j] = 10
  · simp [h10]
  · by_cases hl : j + 1 = l.length
    · simp [h10, hl]
    · simp [h10, hl]
theorem cntK_end (l : List UInt8) : cntK l l.length = linesN l := by
  unfold cntK linesN
  rw [List.take_length]
  by_cases h : l = [] ∨ l.getLast? = some 10
  · rw [if_pos h, if_neg (fun h2 => h.elim h2.2.1 h2.2.2)]
  · rw [if_neg h, if_pos ⟨rfl, fun h2 => h (.inl h2), fun h2 => h (.inr h2)⟩]
theorem cntK_le (l : List UInt8) (j : Nat) : cntK l j ≤ l.length + 1 := by
  unfold cntK
  have h1 := List.count_le_length (a := (10 : UInt8)) (l := l.take j)
  have h2 : (l.take j).length ≤ l.length := by rw [List.length_take]; omega
  split <;> omega
theorem byte_info8 : (Tryz.prog.info? 5).map (fun i => (i.zero, i.size, i.bytes)) = some (some (.int .u8 0), 1, 1) := by kernel_rfl
set_option maxHeartbeats 2000000 in
set_option maxRecDepth 40000 in
theorem shellLong_any (s : ByteArray) (n m : Int) (w : World) (hT : Tabs w) (hm : w.cell? ⟨0, 0, none⟩ = some (.int .i64 m)) (hs : s.size ≤ 9223372036854775807) (hn : -9223372036854775808 ≤ n ∧ n ≤ 9223372036854775807) :
    Calls Tryz.prog 5 #[.string s, .int .i64 n] w fun e w' => e = .returned (.bool true) ∧ Below w.heap.size w w' := by
  have hn1 := hn.1
  have hn2 := hn.2
  clear hn
  by_cases hmain : s.toList.isEmpty = false ∧ s.size ≤ 200 ∧ 0 ≤ n ∧ n ≤ 300000
  case neg =>
    have HM := Lib.hid hmain
    clear hmain
    go_enter Tryz.func5, Tryz.ntmps5
    go_wp2_with (go_at_call 19; refine (X.awake30 _ hT).mono ?_; rintro e w' ⟨rfl, hb⟩)
    all_goals first
      | (go_ret; exact ⟨rfl, hb⟩)
      | (exfalso
         have hall : ((s.toList.isEmpty = false ∧ (s.size : Int) ≤ 200) ∧ 0 ≤ n) ∧ n ≤ 300000 := by assumption
         exact HM.out ⟨hall.1.1.1, by have := hall.1.1.2; omega, hall.1.2, hall.2⟩)
  obtain ⟨he, hs2, h0n, hn3⟩ := hmain
  have hpos : 1 ≤ s.size := by
    rcases Nat.eq_zero_or_pos s.size with h | h
    · exfalso
      rw [ByteArray.toList_eq] at he
      obtain ⟨⟨x⟩⟩ := s
      have : x.length = 0 := h
      have : x = [] := List.length_eq_zero_iff.1 this
      rw [this] at he
      cases he
    · exact h
  have b1 : decide ((200 : Int) < (s.size : Int)) = false := by rw [decide_eq_false_iff_not]; omega
  have b2 : decide (n < 0) = false := by rw [decide_eq_false_iff_not]; omega
  have b3 : decide (300000 < n) = false := by rw [decide_eq_false_iff_not]; omega
  clear hs hn1 hn2
  go_enter Tryz.func5, Tryz.ntmps5
  go_wp2_with fail
  go_loopw [5] (fun v wr => ∃ l : List UInt8, BytesAt w v l wr ∧ l.length < 300200) (fun v _ => n.toNat - lenOf v)
  case atStart => exact ⟨[], ⟨⟨rfl, .inl ⟨rfl, rfl⟩⟩, .refl _ _⟩, by decide⟩
  case round =>
    obtain ⟨l, hB, hll⟩ := hrel
    obtain ⟨A, c, rfl, hc⟩ := hB.form
    by_cases hlt : (l.length : Int) < n
    · have hz := hB.2.size
      obtain ⟨i0, hi0, hz0, hz1, hz2⟩ := info_parts byte_info8
      go_wp2_with (at_builtin; refine Lib.wpList_append_own_string wr rfl (.tmp 28) (.tmp 29) 76 9 rfl w.heap.size 5 i0 Tryz.underlying76 Tryz.underlying9 hi0 hz0 hz1 hz2 _ l.length (Lib.byteCells l) rfl hB.1 s rfl (by simp only [maxLen]; omega) (by omega) hz ?_; intro v2 w2 hv2 hg2 hn2)
      have hlen : (l ++ s.data.toList).length = l.length + s.size := by rw [List.length_append]; rfl
      have hB2 : BytesAt w v2 (l ++ s.data.toList) w2 := by
        refine ⟨?_, hB.2.trans ((Below.refl w.heap.size wr).grown hg2 hz fun k hk => ?_)⟩
        · rw [hlen, Lib.byteCells_append, ← Lib.strCells_eq]; exact hv2
        · rcases hB.1.2 with ⟨h1, _⟩ | ⟨g, cap, cur, h1, h2, _⟩
          · injection h1 with h1 _ _; subst h1; cases hk
          · injection h1 with h1 _ _; subst h1; injection hk with hk; subst hk; exact h2
      have hl2 : lenOf v2 = l.length + s.size := by
        obtain ⟨A2, c2, e, _⟩ := hB2.form
        rw [e]; exact hlen
      have hl1 : lenOf (Value.slice A l.length c) = l.length := rfl
      have hl3 : (l ++ s.data.toList).length < 300200 := by rw [hlen]; omega
      go_round
      case rel => exact ⟨_, hB2, hl3⟩
      case measure => rw [hl2, hl1]; omega
    · have HB := Lib.hid hB
      have hbz := hB.2.size
      clear hB
      have HC := Lib.hid hlt
      clear hlt
      go_wp2_with fail
      go_loop [6, 7] (fun k i => ∃ j : Nat, j ≤ l.length ∧ i = .int .i64 j ∧ k = .int .i64 (cntK l j : Nat)) (fun _ i => l.length - (intOf i).toNat)
      case atStart => exact ⟨0, Nat.zero_le _, rfl, by rw [cntK_zero]; rfl⟩
      case round =>
        obtain ⟨j, hj, rfl, rfl⟩ := hrel
        have hk := cntK_le l j
        by_cases hlt2 : j < l.length
        · obtain ⟨g, rfl, hcell⟩ : ∃ g, A = some ⟨g, 0, none⟩ ∧ wr.cell? ⟨g, j, none⟩ = some (.int .u8 (l[j].toNat : Int)) := by
            have h0 := HB.out.1
            rcases h0.2 with ⟨_, h1⟩ | ⟨g, cap, cur, h1, _⟩
            · omega
            · injection h1 with h1 _ _
              subst h1
              have h2 := h0.cells (g := g) rfl j (.int .u8 (l[j].toNat : Int)) (by unfold Lib.byteCells; rw [List.getElem?_map, List.getElem?_eq_getElem hlt2]; rfl)
              refine ⟨g, rfl, ?_⟩
              have e : (⟨g, 0, none⟩ : Addr).add j = ⟨g, j, none⟩ := by
                by_cases h : j = 0
                · subst h; simp [Addr.add]
                · simp [Addr.add, h]
              rw [e] at h2
              exact h2
          have hst := cntK_step l j hlt2
          have hbyte : ((l[j].toNat : Int) == 10) = decide (l[j] = 10) := by
            rw [Bool.eq_iff_iff, beq_iff_eq, decide_eq_true_eq]
            constructor
            · intro h; apply UInt8.toNat_inj.1; have : (10 : UInt8).toNat = 10 := rfl; omega
            · intro h; rw [h]; rfl
          by_cases h10 : l[j] = 10
          · rw [decide_eq_true h10] at hbyte
            rw [if_pos (.inl h10)] at hst
            have HST := Lib.hid hst
            clear hst h10
            go_wp2_with fail
            go_round
            case rel => exact ⟨j + 1, by omega, by go_num, by rw [HST.out]; rfl⟩
            case measure => simp [intOf]; omega
          · rw [decide_eq_false h10] at hbyte
            by_cases hj1 : j + 1 = l.length
            · have hlast : ((j : Int) == (l.length : Int) - 1) = true := by rw [beq_iff_eq]; omega
              rw [if_pos (.inr hj1)] at hst
              have HST := Lib.hid hst
              have HJ1 := Lib.hid hj1
              clear hst h10 hj1
              go_wp2_with fail
              go_round
              case rel => exact ⟨j + 1, by omega, by go_num, by rw [HST.out]; rfl⟩
              case measure => simp [intOf]; omega
            · have hlast : ((j : Int) == (l.length : Int) - 1) = false := by rw [beq_eq_false_iff_ne]; omega
              rw [if_neg (fun h => h.elim h10 hj1)] at hst
              have HST := Lib.hid hst
              clear hst h10 hj1
              go_wp2_with fail
              go_round
              case rel => exact ⟨j + 1, by omega, by go_num, by rw [HST.out]; rfl⟩
              case measure => simp [intOf]; omega
        · have hje : j = l.length := by omega
          subst hje
          rw [cntK_end] at hk ⊢
          have HN : ∃ N : Nat, N = linesN l := ⟨_, rfl⟩
          obtain ⟨N, hN⟩ := HN
          rw [← hN] at hk ⊢
          have HNL := Lib.hid hN
          clear hN hlt2
          have hb0 := HB.out.2
          have hbig : ¬ ((l.length : Int) ≤ 262144 ∧ (N : Int) ≤ 10000) → 262144 < l.length ∨ 10000 < N := fun h => by omega
          have HBIG := Lib.hid hbig
          clear hbig
          have hconv : (convert 76 9 (.slice A l.length c)).run Tryz.prog wr = .ok (.string ⟨l.toArray⟩) wr := by
            have h0 := HB.out.1
            rcases h0.2 with ⟨h1, h2⟩ | ⟨g, cap, cur, h1, _⟩
            · injection h1 with h1 h3 h4
              have hl0 : l = [] := List.length_eq_zero_iff.1 h2
              subst hl0; subst h1
              rw [show ([] : List UInt8).length = 0 from rfl, run_convert_bytes_string wr 76 9 5 none 0 c Tryz.underlying76 Tryz.underlying5 Tryz.underlying9]
              rfl
            · injection h1 with h1 _ _
              subst h1
              refine run_convert_bytes_back wr 76 9 5 ⟨g, 0, none⟩ c l Tryz.underlying76 Tryz.underlying5 Tryz.underlying9 (fun j hj => ?_)
              exact h0.cells (g := g) rfl j (.int .u8 (l[j].toNat : Int)) (by unfold Lib.byteCells; rw [List.getElem?_map, List.getElem?_eq_getElem hj]; rfl)
          have hm0 : wr.cell? ⟨0, 0, none⟩ = some (.int .i64 m) := (hb0.cell (World.block_lt_of_cell? _ _ hm)).trans hm
          have hT0 := Utf8Tabs_below hT hb0
          go_wp2_with (first
            | (go_at_call 19; refine (X.awake30 _ hT0).mono ?_; rintro e w' ⟨rfl, hb⟩)
            | (go_at_call 20; refine (play_long ⟨l.toArray⟩ m wr (by show l.length < _; omega) hm0 (by first | exact .inl (by show _ < l.length; omega) | exact .inr (by show _ < linesN l; rw [← HNL.out]; omega))).mono ?_; rintro e w' ⟨rfl, hp⟩; have hT0 := Utf8Tabs_below hT0 hp))
          all_goals first
            | (go_ret; exact ⟨rfl, (hb0.trans (hp.mono hbz)).trans (hb.mono (Nat.le_trans hbz hp.size))⟩)
            | (go_ret; exact ⟨rfl, hb0.trans (hb.mono hbz)⟩)
end Go.Proofs.YteooccaicheleaaGreatDoor
