/- penstockalike.Letters: just which letters. -/
import Derived.Test.YteooccaicheleaaGreatDoorKmt
import Derived.Test.YteooccaicheleaaGreatDoorMa
import Derived.Deep.OwnRows
import Derived.Laws.BytesArg
import Derived.Lib.Hide
import Derived.WalkKit
import Derived.ProofKit
namespace Go.Proofs.YteooccaicheleaaGreatDoor
open Go.RowKit
theorem byte_info7 : (Tryz.prog.info? 5).map (fun i => (i.zero, i.size, i.bytes)) = some (some (.int .u8 0), 1, 1) := by kernel_rfl
set_option maxHeartbeats 800000 in
theorem round26 (x : Int) (w : World) (_h0 : -9223372036854775808 ≤ x) (_h1 : x ≤ 9223372036854775807) : Calls Tryz.prog 27 #[.int .i64 x, .int .i64 26] w fun e w' => e = .returned (.int .i64 (x % 26)) ∧ w = w' := by
  go_enter Tryz.func27, Tryz.ntmps27
  have key := Int.tmod_eq_emod (a := x) (b := 26)
  have hr0 : 0 ≤ x % 26 := Int.emod_nonneg _ (by decide)
  have hr1 : x % 26 < 26 := Int.emod_lt_of_pos _ (by decide)
  have e1 : x.tmod 26 < 0 → wrap64 (x.tmod 26 + 26) = x % 26 := fun h => by
    rw [key] at h ⊢
    by_cases hc : 0 ≤ x ∨ (26 : Int) ∣ x
    · rw [if_pos hc] at h; omega
    · rw [if_neg hc]
      have : ((Int.natAbs 26 : Nat) : Int) = 26 := rfl
      rw [this]
      unfold wrap64
      omega
  have e2 : 0 ≤ x.tmod 26 → x.tmod 26 = x % 26 := fun h => by
    rw [key] at h ⊢
    by_cases hc : 0 ≤ x ∨ (26 : Int) ∣ x
    · rw [if_pos hc]; omega
    · rw [if_neg hc] at h
      have : ((Int.natAbs 26 : Nat) : Int) = 26 := rfl
      rw [this] at h
      omega
  have E1 := Lib.hid e1
  have E2 := Lib.hid e2
  clear e1 e2 key hr0 hr1
  go_wp2
  · rename_i h
    go_ret
    exact ⟨by rw [E1.out h]; rfl, rfl⟩
  · rename_i h
    go_ret
    exact ⟨by rw [E2.out (by omega)]; rfl, rfl⟩
def letL (n i : Nat) (k : Int) : List Int := (List.range n).map fun j => if j < i then ((X.letAt j k : Nat) : Int) else 0
theorem letL_zero (n : Nat) (k : Int) : letL n 0 k = List.replicate n 0 := by
  unfold letL
  apply List.ext_getElem (by simp)
  intro j h1 h2
  simp
theorem letL_len (n i : Nat) (k : Int) : (letL n i k).length = n := by simp [letL]
theorem letL_set {n i : Nat} (k : Int) : (letL n i k).set i (X.letAt i k : Nat) = letL n (i + 1) k := by
  apply List.ext_getElem (by simp [letL])
  intro j h1 h2
  rw [List.getElem_set]
  simp only [letL, List.getElem_map, List.getElem_range]
  split
  · rename_i h; subst h; rw [if_pos (by omega)]
  · rename_i h
    by_cases hj : j < i
    · rw [if_pos hj, if_pos (by omega)]
    · rw [if_neg hj, if_neg (by omega)]
theorem letL_str (n : Nat) (k : Int) : strOfNums (letL n n k) = X.letS n k := by
  have h : (strOfNums (letL n n k)).data = (X.letS n k).data := by
    apply Array.ext'
    rw [strOfNums_data]
    unfold letL X.letS
    rw [List.map_map]
    apply List.map_congr_left
    intro j hj
    simp only [Function.comp, List.mem_range] at hj ⊢
    rw [if_pos hj]
    rfl
  generalize strOfNums (letL n n k) = a at h
  generalize X.letS n k = b at h
  obtain ⟨a⟩ := a; obtain ⟨b⟩ := b
  rw [show a = b from h]
theorem sq7 {i : Nat} (hi : i ≤ 6) : 0 ≤ (i : Int) * i ∧ (i : Int) * i ≤ 36 := by
  have h2 := Nat.mul_le_mul hi hi
  have h4 : ((i * i : Nat) : Int) ≤ 36 := by omega
  rw [Int.natCast_mul] at h4
  exact ⟨Int.mul_nonneg (by omega) (by omega), h4⟩
set_option maxRecDepth 20000 in
set_option maxHeartbeats 1600000 in
theorem letters_ex (n : Nat) (k : Int) (w : World) (hn : n ≤ 7) (_hk : -9223372036854775808 ≤ k ∧ k ≤ 9223372036854775807) : Calls Tryz.prog 9 #[.int .i64 n, .int .i64 k] w fun e w' => e = .returned (.string (X.letS n k)) ∧ Below w.heap.size w w' := by
  have hmax : max (n : Int) 0 = n := by omega
  have CR := Lib.hid (fun (i : Nat) (W : World) => round26 (wrap64 ((i : Int) * i + k)) W (by unfold wrap64; omega) (by unfold wrap64; omega))
  go_enter Tryz.func9, Tryz.ntmps9
  have hmk := run_make_row' (P := Tryz.prog) 76 5 (.int .u8 0) 1 Tryz.underlying76 byte_info7 rfl .i64 .i64 n (by omega) (by omega)
  go_wp2_with fail
  go_loopw [6] (fun iv wr => ∃ i : Nat, i ≤ n ∧ iv = .int .i64 i ∧ Blk wr w.heap.size 5 ((letL n i k).map (Value.int .u8)) ∧ Below w.heap.size w wr) (fun iv _ => n - (intOf iv).toNat)
  case atStart => exact ⟨0, Nat.zero_le _, rfl, by
    have h1 := Blk.new w 5 ((List.replicate n (0 : Int)).map (Value.int .u8))
    have h2 : madeCells #[.int .u8 0] n = ((List.replicate n (0 : Int)).map (Value.int .u8)).toArray := by
      apply Array.ext'
      rw [toList_madeCells_one]; simp
    rw [letL_zero, h2]; exact h1, (Below.refl _ _).al _⟩
  case round =>
    obtain ⟨i, hi, rfl, hB, hbl⟩ := hrel
    have hln := hB.lt
    have hl := letL_len n i k
    by_cases hlt : i < n
    · have hlt' : (i : Int) < n := by omega
      have hi1 : i ≤ 6 := by omega
      have hc := hB.cell i
      rw [List.getElem?_map, List.getElem?_eq_getElem (show i < (letL n i k).length by omega)] at hc
      have hfz := hB.frozen i
      have C := CR.out i wr
      have HBB := Lib.hid hB
      have HBL := Lib.hid hbl
      have hsq := sq7 hi1
      obtain ⟨hsq1, hsq2⟩ := hsq
      have HL := Lib.hid (show ((X.letAt i k : Nat) : Int) = 97 + wrap64 ((i : Int) * i + k) % 26 by unfold X.letAt wrap64; omega)
      go_wp2_with fail
      refine C.mono ?_
      rintro e w1 ⟨rfl, rfl⟩
      have hr0 : 0 ≤ wrap64 ((i : Int) * i + k) % 26 := Int.emod_nonneg _ (by omega)
      have hr1 : wrap64 ((i : Int) * i + k) % 26 ≤ 25 := by omega
      clear C hsq1 hsq2
      have HS := Lib.hid (letL_set (n := n) (i := i) k)
      generalize wrap64 ((i : Int) * i + k) % 26 = r at *
      go_wp2_with fail
      go_round
      case rel => exact ⟨i + 1, by omega, by go_num, by
        have h2 := HBB.out.set_ i (.int .u8 (97 + r))
        rw [← HS.out, HL.out, List.map_set]; exact h2, HBL.out.st (Nat.le_refl _) _⟩
      case measure => simp [intOf]; omega
    · have hin : i = n := by omega
      subst hin
      have hcv := run_convert_bytes_arg (P := Tryz.prog) wr 76 5 Tryz.underlying76 Tryz.underlying5 w.heap.size 0 i i (letL i i k) hl (fun j hj => by
        rw [Nat.zero_add, hB.cell j, List.getElem?_map, List.getElem?_eq_getElem (by omega), List.getD, List.getElem?_eq_getElem (by omega)]; rfl) 9 Tryz.underlying9
      rw [letL_str] at hcv
      have HBL := Lib.hid hbl
      clear hB hbl hl
      go_wp2_with fail
      go_ret
      exact ⟨rfl, HBL.out⟩
end Go.Proofs.YteooccaicheleaaGreatDoor
