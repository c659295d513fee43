/- utf8.ValidString of a short text of ASCII. -/
import Derived.Test.YteooccaicheleaaGreatDoorKmt
import Derived.Lib.Hide
import Derived.WalkKit
import Derived.WalkSpells
import Derived.ProofKit
namespace Go.Proofs.YteooccaicheleaaGreatDoor
open Go.RowKit
def strLen (v : Value) : Nat := match v with | .string s => s.size | _ => 0
theorem ascii_rest {t : ByteArray} (h : ∀ x ∈ t.data.toList, x.toNat < 128) : ∀ x ∈ (t.extract 1 t.size).data.toList, x.toNat < 128 := fun x hx => by
  rw [ByteArray.data_extract, Array.toList_extract] at hx
  exact h x (List.mem_of_mem_drop (List.mem_of_mem_take hx))
set_option maxRecDepth 20000 in
set_option maxHeartbeats 1600000 in
theorem valid_small (s : ByteArray) (w : World) (hs : s.size ≤ 8) (ha : ∀ x ∈ s.data.toList, x.toNat < 128) :
    Calls Tryz.prog 443 #[.string s] w fun e w' => e = .returned (.bool true) ∧ w' = w := by
  go_enter Tryz.func443, Tryz.ntmps443
  go_wp2_with fail
  go_loop [0] (fun v => ∃ t : ByteArray, v = .string t ∧ t.size ≤ 8 ∧ Hid (∀ x ∈ t.data.toList, x.toNat < 128)) (fun v => strLen v)
  case atStart => exact ⟨s, rfl, hs, Lib.hid ha⟩
  case round =>
    obtain ⟨t, rfl, ht, HT⟩ := hrel
    by_cases hlt : 0 < t.size
    · have hb : (t[0]'hlt).toNat < 128 := HT.out _ (by
        rw [show t[0] = t.data.toList[0]'hlt from rfl]; exact List.getElem_mem _)
      have h8 : decide (8 < (((t.extract 1 t.size).size : Nat) : Int)) = false := by rw [decide_eq_false_iff_not, ByteArray.size_extract]; omega
      go_wp2_with fail
      go_round
      case rel => exact ⟨_, rfl, by rw [ByteArray.size_extract]; omega, Lib.hid (ascii_rest HT.out)⟩
      case measure => simp only [strLen, ByteArray.size_extract]; omega
    · go_wp2_with fail
      go_ret
      exact ⟨rfl, rfl⟩
end Go.Proofs.YteooccaicheleaaGreatDoor
