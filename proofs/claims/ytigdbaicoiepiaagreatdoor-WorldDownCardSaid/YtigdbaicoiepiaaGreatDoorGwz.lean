/- WorldDown: every call returns true. -/
import Derived.Test.YtigdbaicoiepiaaGreatDoorGwsa
import Derived.Test.YtigdbaicoiepiaaGreatDoorGwta
import Derived.Test.YtigdbaicoiepiaaGreatDoorGwtb
import Derived.Test.YtigdbaicoiepiaaGreatDoorGwtc
import Derived.Test.YtigdbaicoiepiaaGreatDoorGwtd
import Derived.Test.YtigdbaicoiepiaaGreatDoorGwte
import Derived.Test.YtigdbaicoiepiaaGreatDoorGwtf
import Derived.Test.YtigdbaicoiepiaaGreatDoorGwtg
namespace Go.Proofs.YtigdbaicoiepiaaGreatDoor.X
open Go.RowKit S
theorem wd_args (x : Nat) (n : Int) (a : Option Addr) (len cap : Nat) (h : len ≤ 9223372036854775807 ∧ (x = 0 ∨ if x % 2 = 1 then len ≤ x / 2 else x / 2 ≤ len)) : LRel (startR 20 0) [.int .i64 n, .chan (some (x + 1))] [.int .i64 n, .slice a len cap] := .cons _ _ _ _ (.int _ _) (.cons _ _ _ _ (.anyS x a len cap h) .nil)
theorem wd_of {n : Int} {x : Nat} {a : Option Addr} {len cap : Nat} (h : len ≤ 9223372036854775807 ∧ (x = 0 ∨ if x % 2 = 1 then len ≤ x / 2 else x / 2 ≤ len)) (hr : okTrue ((goF Tryz.prog 20 (orK (KA [14] 2 3) (orK (orK (KL [20] Gwra_s) (orK (KL [20] Gwrb_s) (orK (KL [20] Gwrc_s) (orK (KL [20] Gwrd_s) (orK (KL [20] Gwre_s) (KL [20] Gwrf_s)))))) (orK (KM 20 [43, 44, 90] Gwqa_s) (orK (KM 20 [43, 44, 90] Gwqb_s) (KM 20 [43, 44, 90] Gwqc_s))))) 10000000).call 5 [.int .i64 n, .chan (some (x + 1))] (start0 20 2 3)) = true) (w : World) (hT : Lib.Utf8Tabs 2 3 w) : Calls Tryz.prog 5 #[.int .i64 n, .slice a len cap] w fun e w' => e = .returned (.bool true) ∧ Below w.heap.size w w' :=
  true_of_runF (V := 0) (n := 10000000) (K := orK (KA [14] 2 3) (orK (orK (KL [20] Gwra_s) (orK (KL [20] Gwrb_s) (orK (KL [20] Gwrc_s) (orK (KL [20] Gwrd_s) (orK (KL [20] Gwre_s) (KL [20] Gwrf_s)))))) (orK (KM 20 [43, 44, 90] Gwqa_s) (orK (KM 20 [43, 44, 90] Gwqb_s) (KM 20 [43, 44, 90] Gwqc_s))))) (args := [.int .i64 n, .chan (some (x + 1))]) (args' := [.int .i64 n, .slice a len cap]) follows (known_or (known_KA (by decide) (by decide) fun g hg => by rw [List.mem_singleton.1 hg]; exact awake26d) (known_or (known_or (known_KLS Gwra_good) (known_or (known_KLS Gwrb_good) (known_or (known_KLS Gwrc_good) (known_or (known_KLS Gwrd_good) (known_or (known_KLS Gwre_good) (known_KLS Gwrf_good)))))) (known_or (known_KM Gwqa_good) (known_or (known_KM Gwqb_good) (known_KM Gwqc_good))))) (by decide) (by decide) (by decide) hr (wd_args x n a len cap h) w hT
theorem worldDown_any (n : Int) (a : Option Addr) (len cap : Nat) (hl : len ≤ 9223372036854775807) (w : World) (hT : Lib.Utf8Tabs 2 3 w) : Calls Tryz.prog 5 #[.int .i64 n, .slice a len cap] w fun e w' => e = .returned (.bool true) ∧ Below w.heap.size w w' := by
  by_cases h : len ≤ 30
  · have hb : len ≤ 9223372036854775807 ∧ ((61 : Nat) = 0 ∨ if 61 % 2 = 1 then len ≤ 61 / 2 else 61 / 2 ≤ len) := ⟨hl, .inr (by simp; omega)⟩
    exact match n with
      | .negSucc m => wd_of (x := 0) ⟨hl, .inl rfl⟩ (wdneg m) w hT
      | .ofNat 0 => wd_of (x := 61) hb wdn0 w hT
      | .ofNat 1 => wd_of (x := 61) hb wdn1 w hT
      | .ofNat 2 => wd_of (x := 61) hb wdn2 w hT
      | .ofNat 3 => wd_of (x := 61) hb wdn3 w hT
      | .ofNat 4 => wd_of (x := 61) hb wdn4 w hT
      | .ofNat 5 => wd_of (x := 61) hb wdn5 w hT
      | .ofNat 6 => wd_of (x := 61) hb wdn6 w hT
      | .ofNat 7 => wd_of (x := 61) hb wdn7 w hT
      | .ofNat 8 => wd_of (x := 61) hb wdn8 w hT
      | .ofNat 9 => wd_of (x := 61) hb wdn9 w hT
      | .ofNat 10 => wd_of (x := 61) hb wdn10 w hT
      | .ofNat 11 => wd_of (x := 61) hb wdn11 w hT
      | .ofNat 12 => wd_of (x := 61) hb wdn12 w hT
      | .ofNat 13 => wd_of (x := 61) hb wdn13 w hT
      | .ofNat 14 => wd_of (x := 61) hb wdn14 w hT
      | .ofNat 15 => wd_of (x := 61) hb wdn15 w hT
      | .ofNat 16 => wd_of (x := 61) hb wdn16 w hT
      | .ofNat 17 => wd_of (x := 61) hb wdn17 w hT
      | .ofNat 18 => wd_of (x := 61) hb wdn18 w hT
      | .ofNat 19 => wd_of (x := 61) hb wdn19 w hT
      | .ofNat 20 => wd_of (x := 61) hb wdn20 w hT
      | .ofNat (m + 21) => wd_of (x := 0) ⟨hl, .inl rfl⟩ (wdbig m) w hT
  · have hb : len ≤ 9223372036854775807 ∧ ((62 : Nat) = 0 ∨ if 62 % 2 = 1 then len ≤ 62 / 2 else 62 / 2 ≤ len) := ⟨hl, .inr (by simp; omega)⟩
    exact match n with
      | .negSucc m => wd_of (x := 0) ⟨hl, .inl rfl⟩ (wdneg m) w hT
      | .ofNat 0 => wd_of (x := 62) hb wdl0 w hT
      | .ofNat 1 => wd_of (x := 62) hb wdl1 w hT
      | .ofNat 2 => wd_of (x := 62) hb wdl2 w hT
      | .ofNat 3 => wd_of (x := 62) hb wdl3 w hT
      | .ofNat 4 => wd_of (x := 62) hb wdl4 w hT
      | .ofNat 5 => wd_of (x := 62) hb wdl5 w hT
      | .ofNat 6 => wd_of (x := 62) hb wdl6 w hT
      | .ofNat 7 => wd_of (x := 62) hb wdl7 w hT
      | .ofNat 8 => wd_of (x := 62) hb wdl8 w hT
      | .ofNat 9 => wd_of (x := 62) hb wdl9 w hT
      | .ofNat 10 => wd_of (x := 62) hb wdl10 w hT
      | .ofNat 11 => wd_of (x := 62) hb wdl11 w hT
      | .ofNat 12 => wd_of (x := 62) hb wdl12 w hT
      | .ofNat 13 => wd_of (x := 62) hb wdl13 w hT
      | .ofNat 14 => wd_of (x := 62) hb wdl14 w hT
      | .ofNat 15 => wd_of (x := 62) hb wdl15 w hT
      | .ofNat 16 => wd_of (x := 62) hb wdl16 w hT
      | .ofNat 17 => wd_of (x := 62) hb wdl17 w hT
      | .ofNat 18 => wd_of (x := 62) hb wdl18 w hT
      | .ofNat 19 => wd_of (x := 62) hb wdl19 w hT
      | .ofNat 20 => wd_of (x := 62) hb wdl20 w hT
      | .ofNat (m + 21) => wd_of (x := 0) ⟨hl, .inl rfl⟩ (wdbig m) w hT
end Go.Proofs.YtigdbaicoiepiaaGreatDoor.X
