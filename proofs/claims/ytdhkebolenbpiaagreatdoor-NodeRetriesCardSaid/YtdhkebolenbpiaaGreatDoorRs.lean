/- frame.Sum: the check sum of the bytes; frame.get: the number of four bytes. -/
import Derived.Test.YtdhkebolenbpiaaGreatDoorKmt
import Derived.Lib.Hide
import Derived.WalkKit
import Derived.WalkSpells
import Derived.ProofKit
import Derived.Laws.Closers25b
import Derived.Laws.BitsAllLaws
namespace Go.Proofs.YtdhkebolenbpiaaGreatDoor
open Go.RowKit
def X.crcI (y : Int) : Int := if (bits .and .u32 y 1 == 1) = true then bits .xor .u32 (y / 2) 3988292384 else y / 2
def X.crcN : Nat → Int → Int
  | 0, z => z
  | m + 1, z => X.crcI (X.crcN m z)
def X.crcL (x : Int) (l : List Nat) : Int := l.foldl (fun (y : Int) (b : Nat) => X.crcN 8 (bits .xor .u32 y (b : Int))) x
def X.sumI (l : List Nat) : Int := bits .xor .u32 IntKind.u32.max (X.crcL 4294967295 l)
theorem crcL_snoc (x : Int) (l : List Nat) (b k : Nat) (h : l[k]? = some b) : X.crcL x (l.take (k + 1)) = X.crcN 8 (bits .xor .u32 (X.crcL x (l.take k)) b) := by
  have e : l.take (k + 1) = l.take k ++ [b] := by
    rw [List.take_add_one, h]; rfl
  rw [e]
  unfold X.crcL
  rw [List.foldl_append]
  rfl
set_option maxRecDepth 20000 in
set_option maxHeartbeats 1600000 in
theorem sum_ex (bk o n c : Nat) (w : World) (bs : List Nat) (hl : bs.length = n) (hn : n ≤ 140737488355328) (h : ∀ j, j < n → ∃ x : Nat, bs[j]? = some x ∧ x < 256 ∧ w.cell? ⟨bk, o + j, none⟩ = some (.int .u8 x)) :
    Calls Tryz.prog 286 #[.slice (some ⟨bk, o, none⟩) n c] w fun e w' => e = .returned (.int .u32 (X.sumI bs)) ∧ w' = w := by
  have H := Lib.hid h
  clear h
  have hfull := Lib.hid (show bs.take n = bs by rw [← hl]; exact List.take_length)
  clear hl
  go_enter Tryz.func286, Tryz.ntmps286
  go_wp2_with fail
  go_loop [3, 9] (fun v i => ∃ (k : Nat) (x : Int), k ≤ n ∧ i = .int .i64 k ∧ v = .int .u32 x ∧ Hid (x = X.crcL 4294967295 (bs.take k)) ∧ 0 ≤ x ∧ x < 4294967296) (fun _ i => n - (intOf i).toNat)
  case atStart => exact ⟨0, 4294967295, Nat.zero_le _, rfl, rfl, Lib.hid rfl, by decide, by decide⟩
  case round =>
    obtain ⟨k, x, hk, rfl, rfl, hx, hx0, hx1⟩ := hrel
    by_cases hlt : k < n
    · obtain ⟨b, hbs0, hb, hcell⟩ := H.out k hlt
      have hbs := Lib.hid hbs0
      clear hbs0
      go_wp2_with fail
      go_loop [3, 17] (fun v i => ∃ (m : Nat) (y : Int), m ≤ 8 ∧ i = .int .i64 m ∧ v = .int .u32 y ∧ Hid (y = X.crcN m (bits .xor .u32 x b)) ∧ 0 ≤ y ∧ y < 4294967296) (fun _ i => 8 - (intOf i).toNat)
      case atStart => exact ⟨0, _, Nat.zero_le _, rfl, rfl, Lib.hid rfl, bits_lo_u32 _ _ _, by have := bits_hi_u32 .xor x b; omega⟩
      case round =>
        obtain ⟨m, y, hm, rfl, rfl, hy, hy0, hy1⟩ := hrel
        by_cases hlt2 : m < 8
        · go_wp2_with fail
          · rename_i hlow
            have hstep : bits .xor .u32 (y / 2) 3988292384 = X.crcN (m + 1) (bits .xor .u32 x b) := by
              show _ = X.crcI (X.crcN m _)
              rw [← hy.out]; unfold X.crcI; rw [if_pos hlow]
            go_round
            case rel => exact ⟨m + 1, _, by omega, by go_num, rfl, Lib.hid hstep, bits_lo_u32 _ _ _, by have := bits_hi_u32 .xor (y / 2) 3988292384; omega⟩
            case measure => simp [intOf]; omega
          · rename_i hlow
            have hstep : y / 2 = X.crcN (m + 1) (bits .xor .u32 x b) := by
              show _ = X.crcI (X.crcN m _)
              rw [← hy.out]; unfold X.crcI; rw [if_neg (by rw [hlow]; decide)]
            go_round
            case rel => exact ⟨m + 1, _, by omega, by go_num, rfl, Lib.hid hstep, by omega, by omega⟩
            case measure => simp [intOf]; omega
        · have hm8 : m = 8 := by omega
          subst hm8
          go_wp2_with fail
          go_round
          case rel => exact ⟨k + 1, y, by omega, by go_num, rfl, Lib.hid (by rw [crcL_snoc _ _ _ _ hbs.out, ← hx.out]; exact hy.out), hy0, hy1⟩
          case measure => simp [intOf]; omega
    · have hkn : k = n := by omega
      subst hkn
      go_wp2_with fail
      go_ret
      have hx2 := hx.out
      rw [hfull.out] at hx2
      refine ⟨?_, rfl⟩
      rw [hx2]
      rfl
theorem or_put {x b m : Nat} (hx : x < 2 ^ m) (h : x + b * 2 ^ m < 4294967296) : bits .or .u32 (x : Int) ((b * 2 ^ m : Nat) : Int) = ((x + b * 2 ^ m : Nat) : Int) := by
  rw [u32_or_nat _ _ (by omega) (by omega), Nat.or_comm, Nat.mul_comm b, ← Nat.two_pow_add_eq_or_of_lt hx, Nat.add_comm]
def X.getP (b0 b1 b2 b3 : Nat) : Nat → Nat
  | 0 => 0
  | 1 => b0
  | 2 => b0 + b1 * 256
  | 3 => b0 + b1 * 256 + b2 * 65536
  | _ => b0 + b1 * 256 + b2 * 65536 + b3 * 16777216
set_option maxRecDepth 20000 in
set_option maxHeartbeats 1600000 in
theorem get_ex (bk o n c : Nat) (w : World) (b0 b1 b2 b3 : Nat) (hn : 4 ≤ n) (hn2 : n ≤ 140737488355328) (l0 : b0 < 256) (l1 : b1 < 256) (l2 : b2 < 256) (l3 : b3 < 256) (h0 : w.cell? ⟨bk, o, none⟩ = some (.int .u8 b0)) (h1 : w.cell? ⟨bk, o + 1, none⟩ = some (.int .u8 b1))
    (h2 : w.cell? ⟨bk, o + 2, none⟩ = some (.int .u8 b2)) (h3 : w.cell? ⟨bk, o + 3, none⟩ = some (.int .u8 b3)) :
    Calls Tryz.prog 330 #[.slice (some ⟨bk, o, none⟩) n c] w fun e w' => e = .returned (.int .u32 (X.getP b0 b1 b2 b3 4 : Nat)) ∧ w' = w := by
  have e0 : bits .or .u32 ((X.getP b0 b1 b2 b3 0 : Nat) : Int) (b0 : Int) = (X.getP b0 b1 b2 b3 1 : Nat) := (u32_or_nat 0 b0 (by omega) (by omega)).trans (by rw [Nat.zero_or]; rfl)
  have e1 : bits .or .u32 ((X.getP b0 b1 b2 b3 1 : Nat) : Int) ((b1 : Int) * 256) = (X.getP b0 b1 b2 b3 2 : Nat) := or_put (x := b0) (b := b1) (m := 8) (by omega) (by omega)
  have e2 : bits .or .u32 ((X.getP b0 b1 b2 b3 2 : Nat) : Int) ((b2 : Int) * 65536) = (X.getP b0 b1 b2 b3 3 : Nat) := or_put (x := b0 + b1 * 256) (b := b2) (m := 16) (by omega) (by omega)
  have e3 : bits .or .u32 ((X.getP b0 b1 b2 b3 3 : Nat) : Int) ((b3 : Int) * 16777216) = (X.getP b0 b1 b2 b3 4 : Nat) := or_put (x := b0 + b1 * 256 + b2 * 65536) (b := b3) (m := 24) (by omega) (by omega)
  have hb : ∀ k, X.getP b0 b1 b2 b3 k < 4294967296 := fun k => by
    unfold X.getP
    split <;> omega
  have G0 := Lib.hid (show X.getP b0 b1 b2 b3 0 = 0 from rfl)
  have E0 := Lib.hid e0
  have E1 := Lib.hid e1
  have E2 := Lib.hid e2
  have E3 := Lib.hid e3
  have HB := Lib.hid hb
  clear e0 e1 e2 e3 hb
  generalize X.getP b0 b1 b2 b3 = g at *
  go_enter Tryz.func330, Tryz.ntmps330
  go_wp2_with fail
  go_loop [2, 4] (fun v i => ∃ (k : Nat) (x : Nat), k ≤ 4 ∧ i = .int .i64 k ∧ v = .int .u32 x ∧ Hid (x = g k) ∧ x < 4294967296) (fun _ i => 4 - (intOf i).toNat)
  case atStart => exact ⟨0, 0, by omega, rfl, rfl, Lib.hid G0.out.symm, by omega⟩
  case round =>
    obtain ⟨k, x, hk, rfl, rfl, hx, hx1⟩ := hrel
    have hk5 : k = 0 ∨ k = 1 ∨ k = 2 ∨ k = 3 ∨ k = 4 := by omega
    rcases hk5 with rfl | rfl | rfl | rfl | rfl
    · go_wp2_with fail
      go_round
      case rel => exact ⟨1, g 1, by omega, rfl, by rw [hx.out, E0.out], Lib.hid rfl, HB.out 1⟩
      case measure => simp [intOf]
    · go_wp2_with fail
      go_round
      case rel => exact ⟨2, g 2, by omega, rfl, by rw [hx.out, E1.out], Lib.hid rfl, HB.out 2⟩
      case measure => simp [intOf]
    · go_wp2_with fail
      go_round
      case rel => exact ⟨3, g 3, by omega, rfl, by rw [hx.out, E2.out], Lib.hid rfl, HB.out 3⟩
      case measure => simp [intOf]
    · go_wp2_with fail
      go_round
      case rel => exact ⟨4, g 4, by omega, rfl, by rw [hx.out, E3.out], Lib.hid rfl, HB.out 4⟩
      case measure => simp [intOf]
    · go_wp2_with fail
      go_ret
      exact ⟨by rw [hx.out]; rfl, rfl⟩
end Go.Proofs.YtdhkebolenbpiaaGreatDoor
