/- ShellNumbers: every call returns true. -/
import Derived.Test.YtkmjdfcfcfmkdaaGreatDoorGuta
import Derived.Test.YtkmjdfcfcfmkdaaGreatDoorGutb
import Derived.Test.YtkmjdfcfcfmkdaaGreatDoorGutc
import Derived.Test.YtkmjdfcfcfmkdaaGreatDoorGutd
import Derived.Test.YtkmjdfcfcfmkdaaGreatDoorGute
import Derived.Test.YtkmjdfcfcfmkdaaGreatDoorGutf
import Derived.Test.YtkmjdfcfcfmkdaaGreatDoorGutg
import Derived.Test.YtkmjdfcfcfmkdaaGreatDoorGuth
import Derived.Test.YtkmjdfcfcfmkdaaGreatDoorGuti
import Derived.Test.YtkmjdfcfcfmkdaaGreatDoorGutj
namespace Go.Proofs.YtkmjdfcfcfmkdaaGreatDoor.X
open Go.RowKit S
theorem snneg (m : Nat) : snRun (.int .i64 (Int.negSucc m)) (.float .f64 1) = true := by kernel_rfl
theorem snbig : snRun (.complex .f32 20 3138550867693340381577612344701341488661512666416249044993) (.float .f64 1) = true := by kernel_rfl
theorem shellNumbers_any (n k : Int) (w : World) (hn : -9223372036854775808 ≤ n ∧ n ≤ 9223372036854775807) (h : SnW w) : Calls Tryz.prog 3 #[.int .i64 n, .int .i64 k] w fun r w' => r = .returned (.bool true) ∧ Below w.heap.size w w' := by
  obtain ⟨V, rfl⟩ := symI_all n
  by_cases h1 : symI V < 0
  · obtain ⟨m, hm⟩ : ∃ m : Nat, symI V = Int.negSucc m := ⟨(-symI V - 1).toNat, by omega⟩
    rw [hm]
    exact sn_of (V := 0) (snneg m) (.int _ _) (sn_any k) h
  by_cases h2 : symI V ≤ 0
  · rw [show symI V = 0 by omega]
    exact sn_of (V := 0) (sn0 k) (.int _ _) (.int _ _) h
  by_cases h3 : symI V ≤ 9
  · exact sn_of (sn1 k) (sn_sym (lo := 1) (hi := 9) ⟨by omega, by omega⟩ (by decide +kernel) (by decide +kernel) (by decide +kernel)) (.int _ _) h
  by_cases h4 : symI V ≤ 99
  · exact sn_of (sn2 k) (sn_sym (lo := 10) (hi := 99) ⟨by omega, by omega⟩ (by decide +kernel) (by decide +kernel) (by decide +kernel)) (.int _ _) h
  by_cases h5 : symI V ≤ 999
  · exact sn_of (sn3 k) (sn_sym (lo := 100) (hi := 999) ⟨by omega, by omega⟩ (by decide +kernel) (by decide +kernel) (by decide +kernel)) (.int _ _) h
  by_cases h6 : symI V ≤ 9999
  · exact sn_of (sn4 k) (sn_sym (lo := 1000) (hi := 9999) ⟨by omega, by omega⟩ (by decide +kernel) (by decide +kernel) (by decide +kernel)) (.int _ _) h
  by_cases h7 : symI V ≤ 99999
  · exact sn_of (sn5 k) (sn_sym (lo := 10000) (hi := 99999) ⟨by omega, by omega⟩ (by decide +kernel) (by decide +kernel) (by decide +kernel)) (.int _ _) h
  by_cases h8 : symI V ≤ 999999
  · exact sn_of (sn6 k) (sn_sym (lo := 100000) (hi := 999999) ⟨by omega, by omega⟩ (by decide +kernel) (by decide +kernel) (by decide +kernel)) (.int _ _) h
  by_cases h9 : symI V ≤ 9999999
  · exact sn_of (sn7 k) (sn_sym (lo := 1000000) (hi := 9999999) ⟨by omega, by omega⟩ (by decide +kernel) (by decide +kernel) (by decide +kernel)) (.int _ _) h
  by_cases h10 : symI V ≤ 99999999
  · exact sn_of (sn8 k) (sn_sym (lo := 10000000) (hi := 99999999) ⟨by omega, by omega⟩ (by decide +kernel) (by decide +kernel) (by decide +kernel)) (.int _ _) h
  by_cases h11 : symI V ≤ 999999999
  · exact sn_of (sn9 k) (sn_sym (lo := 100000000) (hi := 999999999) ⟨by omega, by omega⟩ (by decide +kernel) (by decide +kernel) (by decide +kernel)) (.int _ _) h
  exact sn_of snbig (sn_sym (lo := 1000000000) (hi := 9223372036854775807) ⟨by omega, by omega⟩ (by decide +kernel) (by decide +kernel) (by decide +kernel)) (sn_any k) h
end Go.Proofs.YtkmjdfcfcfmkdaaGreatDoor.X
