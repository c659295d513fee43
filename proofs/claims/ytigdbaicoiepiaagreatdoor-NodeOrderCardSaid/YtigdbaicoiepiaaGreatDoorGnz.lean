/- NodeOrder: every call returns true. -/
import Derived.Test.YtigdbaicoiepiaaGreatDoorGnsa
import Derived.Test.YtigdbaicoiepiaaGreatDoorGnta
import Derived.Test.YtigdbaicoiepiaaGreatDoorGntb
import Derived.Test.YtigdbaicoiepiaaGreatDoorGntc
import Derived.Test.YtigdbaicoiepiaaGreatDoorGntd
import Derived.Test.YtigdbaicoiepiaaGreatDoorGnte
import Derived.Test.YtigdbaicoiepiaaGreatDoorGntf
import Derived.Test.YtigdbaicoiepiaaGreatDoorGntg
import Derived.Test.YtigdbaicoiepiaaGreatDoorGnth
import Derived.Test.YtigdbaicoiepiaaGreatDoorGnti
import Derived.Test.YtigdbaicoiepiaaGreatDoorGntj
import Derived.Test.YtigdbaicoiepiaaGreatDoorGntk
namespace Go.Proofs.YtigdbaicoiepiaaGreatDoor.X
open Go.RowKit S
theorem no_of {V : Nat} {n e : Int} {x : Value} (hx : VRel (startR 21 V) x (.int .i64 e)) (hr : okTrue ((goF Tryz.prog 21 (orK (KA [32] 2 3) (orK (orK (KL [34] Gnra_s) (orK (KL [34] Gnrb_s) (orK (KL [34] Gnrc_s) (orK (KL [34] Gnrd_s) (orK (KL [34] Gnre_s) (orK (KL [34] Gnrf_s) (orK (KL [34] Gnrg_s) (KL [34] Gnrh_s)))))))) (orK (KM 21 [43, 44, 302] Gnqa_s) (orK (KM 21 [43, 44, 302] Gnqb_s) (KM 21 [43, 44, 302] Gnqc_s))))) 10000000).call 6 [.int .i64 n, x] (start0 21 2 3)) = true) (w : World) (hT : Lib.Utf8Tabs 2 3 w) : Calls Tryz.prog 6 #[.int .i64 n, .int .i64 e] w fun r w' => r = .returned (.bool true) ∧ Below w.heap.size w w' :=
  true_of_runF (V := V) (n := 10000000) (K := orK (KA [32] 2 3) (orK (orK (KL [34] Gnra_s) (orK (KL [34] Gnrb_s) (orK (KL [34] Gnrc_s) (orK (KL [34] Gnrd_s) (orK (KL [34] Gnre_s) (orK (KL [34] Gnrf_s) (orK (KL [34] Gnrg_s) (KL [34] Gnrh_s)))))))) (orK (KM 21 [43, 44, 302] Gnqa_s) (orK (KM 21 [43, 44, 302] Gnqb_s) (KM 21 [43, 44, 302] Gnqc_s))))) (args := [.int .i64 n, x]) (args' := [.int .i64 n, .int .i64 e]) follows (known_or (known_KA (by decide) (by decide) fun g hg => by rw [List.mem_singleton.1 hg]; exact awake24n) (known_or (known_or (known_KLS Gnra_good) (known_or (known_KLS Gnrb_good) (known_or (known_KLS Gnrc_good) (known_or (known_KLS Gnrd_good) (known_or (known_KLS Gnre_good) (known_or (known_KLS Gnrf_good) (known_or (known_KLS Gnrg_good) (known_KLS Gnrh_good)))))))) (known_or (known_KM Gnqa_good) (known_or (known_KM Gnqb_good) (known_KM Gnqc_good))))) (by decide) (by decide) (by decide) hr (.cons _ _ _ _ (.int _ _) (.cons _ _ _ _ hx .nil)) w hT
theorem no_sym {V lo hi : Nat} (h : (lo : Int) ≤ symI V ∧ symI V ≤ hi) {c : Nat} (h0 : sOff c = 0) (h1 : sLo c = lo) (h2 : sHi c = hi) : VRel (startR 21 V) (.complex .f32 20 c) (.int .i64 (symI V)) := sym_relB h0 fun _ => by rw [h1, h2]; exact h
theorem nodeOrder_any (n e : Int) (w : World) (hT : Lib.Utf8Tabs 2 3 w) : Calls Tryz.prog 6 #[.int .i64 n, .int .i64 e] w fun r w' => r = .returned (.bool true) ∧ Below w.heap.size w w' := by
  obtain ⟨V, rfl⟩ := symI_all e
  cases n with
  | negSucc m => exact no_of (V := V) (sym_rel 0) (noneg m) w hT
  | ofNat n =>
    by_cases hn : 21 ≤ n
    · obtain ⟨m, rfl⟩ : ∃ m, n = m + 21 := ⟨n - 21, by omega⟩
      exact no_of (V := V) (sym_rel 0) (nobig m) w hT
    have hn : n = 0 ∨ n = 1 ∨ n = 2 ∨ n = 3 ∨ n = 4 ∨ n = 5 ∨ n = 6 ∨ n = 7 ∨ n = 8 ∨ n = 9 ∨ n = 10 ∨ n = 11 ∨ n = 12 ∨ n = 13 ∨ n = 14 ∨ n = 15 ∨ n = 16 ∨ n = 17 ∨ n = 18 ∨ n = 19 ∨ n = 20 := by omega
    by_cases h1 : symI V < 0
    · obtain ⟨m, hm⟩ : ∃ m : Nat, symI V = Int.negSucc m := ⟨(-symI V - 1).toNat, by omega⟩
      rw [hm]
      rcases hn with rfl | rfl | rfl | rfl | rfl | rfl | rfl | rfl | rfl | rfl | rfl | rfl | rfl | rfl | rfl | rfl | rfl | rfl | rfl | rfl | rfl
      · exact no_of (V := 0) (.int _ _) (nom0 m) w hT
      · exact no_of (V := 0) (.int _ _) (nom1 m) w hT
      · exact no_of (V := 0) (.int _ _) (nom2 m) w hT
      · exact no_of (V := 0) (.int _ _) (nom3 m) w hT
      · exact no_of (V := 0) (.int _ _) (nom4 m) w hT
      · exact no_of (V := 0) (.int _ _) (nom5 m) w hT
      · exact no_of (V := 0) (.int _ _) (nom6 m) w hT
      · exact no_of (V := 0) (.int _ _) (nom7 m) w hT
      · exact no_of (V := 0) (.int _ _) (nom8 m) w hT
      · exact no_of (V := 0) (.int _ _) (nom9 m) w hT
      · exact no_of (V := 0) (.int _ _) (nom10 m) w hT
      · exact no_of (V := 0) (.int _ _) (nom11 m) w hT
      · exact no_of (V := 0) (.int _ _) (nom12 m) w hT
      · exact no_of (V := 0) (.int _ _) (nom13 m) w hT
      · exact no_of (V := 0) (.int _ _) (nom14 m) w hT
      · exact no_of (V := 0) (.int _ _) (nom15 m) w hT
      · exact no_of (V := 0) (.int _ _) (nom16 m) w hT
      · exact no_of (V := 0) (.int _ _) (nom17 m) w hT
      · exact no_of (V := 0) (.int _ _) (nom18 m) w hT
      · exact no_of (V := 0) (.int _ _) (nom19 m) w hT
      · exact no_of (V := 0) (.int _ _) (nom20 m) w hT
    by_cases h2 : 30 < symI V
    · obtain ⟨m, hm⟩ : ∃ m : Nat, symI V = Int.ofNat (m + 31) := ⟨(symI V - 31).toNat, by show symI V = ((symI V - 31).toNat + 31 : Nat); omega⟩
      rw [hm]
      rcases hn with rfl | rfl | rfl | rfl | rfl | rfl | rfl | rfl | rfl | rfl | rfl | rfl | rfl | rfl | rfl | rfl | rfl | rfl | rfl | rfl | rfl
      · exact no_of (V := 0) (.int _ _) (nop0 m) w hT
      · exact no_of (V := 0) (.int _ _) (nop1 m) w hT
      · exact no_of (V := 0) (.int _ _) (nop2 m) w hT
      · exact no_of (V := 0) (.int _ _) (nop3 m) w hT
      · exact no_of (V := 0) (.int _ _) (nop4 m) w hT
      · exact no_of (V := 0) (.int _ _) (nop5 m) w hT
      · exact no_of (V := 0) (.int _ _) (nop6 m) w hT
      · exact no_of (V := 0) (.int _ _) (nop7 m) w hT
      · exact no_of (V := 0) (.int _ _) (nop8 m) w hT
      · exact no_of (V := 0) (.int _ _) (nop9 m) w hT
      · exact no_of (V := 0) (.int _ _) (nop10 m) w hT
      · exact no_of (V := 0) (.int _ _) (nop11 m) w hT
      · exact no_of (V := 0) (.int _ _) (nop12 m) w hT
      · exact no_of (V := 0) (.int _ _) (nop13 m) w hT
      · exact no_of (V := 0) (.int _ _) (nop14 m) w hT
      · exact no_of (V := 0) (.int _ _) (nop15 m) w hT
      · exact no_of (V := 0) (.int _ _) (nop16 m) w hT
      · exact no_of (V := 0) (.int _ _) (nop17 m) w hT
      · exact no_of (V := 0) (.int _ _) (nop18 m) w hT
      · exact no_of (V := 0) (.int _ _) (nop19 m) w hT
      · exact no_of (V := 0) (.int _ _) (nop20 m) w hT
    rcases hn with rfl | rfl | rfl | rfl | rfl | rfl | rfl | rfl | rfl | rfl | rfl | rfl | rfl | rfl | rfl | rfl | rfl | rfl | rfl | rfl | rfl
    · rcases Int.lt_trichotomy (symI V) 0 with h | h | h
      · exact absurd h h1
      · rw [h]; exact no_of (V := 0) (.int _ _) noe0 w hT
      · exact no_of (no_sym (lo := 1) (hi := 30) ⟨by omega, by omega⟩ (by decide +kernel) (by decide +kernel) (by decide +kernel)) nog0 w hT
    · rcases Int.lt_trichotomy (symI V) 1 with h | h | h
      · exact no_of (no_sym (lo := 0) (hi := 0) ⟨by omega, by omega⟩ (by decide +kernel) (by decide +kernel) (by decide +kernel)) nol1 w hT
      · rw [h]; exact no_of (V := 0) (.int _ _) noe1 w hT
      · exact no_of (no_sym (lo := 2) (hi := 30) ⟨by omega, by omega⟩ (by decide +kernel) (by decide +kernel) (by decide +kernel)) nog1 w hT
    · rcases Int.lt_trichotomy (symI V) 2 with h | h | h
      · exact no_of (no_sym (lo := 0) (hi := 1) ⟨by omega, by omega⟩ (by decide +kernel) (by decide +kernel) (by decide +kernel)) nol2 w hT
      · rw [h]; exact no_of (V := 0) (.int _ _) noe2 w hT
      · exact no_of (no_sym (lo := 3) (hi := 30) ⟨by omega, by omega⟩ (by decide +kernel) (by decide +kernel) (by decide +kernel)) nog2 w hT
    · rcases Int.lt_trichotomy (symI V) 3 with h | h | h
      · exact no_of (no_sym (lo := 0) (hi := 2) ⟨by omega, by omega⟩ (by decide +kernel) (by decide +kernel) (by decide +kernel)) nol3 w hT
      · rw [h]; exact no_of (V := 0) (.int _ _) noe3 w hT
      · exact no_of (no_sym (lo := 4) (hi := 30) ⟨by omega, by omega⟩ (by decide +kernel) (by decide +kernel) (by decide +kernel)) nog3 w hT
    · rcases Int.lt_trichotomy (symI V) 4 with h | h | h
      · exact no_of (no_sym (lo := 0) (hi := 3) ⟨by omega, by omega⟩ (by decide +kernel) (by decide +kernel) (by decide +kernel)) nol4 w hT
      · rw [h]; exact no_of (V := 0) (.int _ _) noe4 w hT
      · exact no_of (no_sym (lo := 5) (hi := 30) ⟨by omega, by omega⟩ (by decide +kernel) (by decide +kernel) (by decide +kernel)) nog4 w hT
    · rcases Int.lt_trichotomy (symI V) 5 with h | h | h
      · exact no_of (no_sym (lo := 0) (hi := 4) ⟨by omega, by omega⟩ (by decide +kernel) (by decide +kernel) (by decide +kernel)) nol5 w hT
      · rw [h]; exact no_of (V := 0) (.int _ _) noe5 w hT
      · exact no_of (no_sym (lo := 6) (hi := 30) ⟨by omega, by omega⟩ (by decide +kernel) (by decide +kernel) (by decide +kernel)) nog5 w hT
    · rcases Int.lt_trichotomy (symI V) 6 with h | h | h
      · exact no_of (no_sym (lo := 0) (hi := 5) ⟨by omega, by omega⟩ (by decide +kernel) (by decide +kernel) (by decide +kernel)) nol6 w hT
      · rw [h]; exact no_of (V := 0) (.int _ _) noe6 w hT
      · exact no_of (no_sym (lo := 7) (hi := 30) ⟨by omega, by omega⟩ (by decide +kernel) (by decide +kernel) (by decide +kernel)) nog6 w hT
    · rcases Int.lt_trichotomy (symI V) 7 with h | h | h
      · exact no_of (no_sym (lo := 0) (hi := 6) ⟨by omega, by omega⟩ (by decide +kernel) (by decide +kernel) (by decide +kernel)) nol7 w hT
      · rw [h]; exact no_of (V := 0) (.int _ _) noe7 w hT
      · exact no_of (no_sym (lo := 8) (hi := 30) ⟨by omega, by omega⟩ (by decide +kernel) (by decide +kernel) (by decide +kernel)) nog7 w hT
    · rcases Int.lt_trichotomy (symI V) 8 with h | h | h
      · exact no_of (no_sym (lo := 0) (hi := 7) ⟨by omega, by omega⟩ (by decide +kernel) (by decide +kernel) (by decide +kernel)) nol8 w hT
      · rw [h]; exact no_of (V := 0) (.int _ _) noe8 w hT
      · exact no_of (no_sym (lo := 9) (hi := 30) ⟨by omega, by omega⟩ (by decide +kernel) (by decide +kernel) (by decide +kernel)) nog8 w hT
    · rcases Int.lt_trichotomy (symI V) 9 with h | h | h
      · exact no_of (no_sym (lo := 0) (hi := 8) ⟨by omega, by omega⟩ (by decide +kernel) (by decide +kernel) (by decide +kernel)) nol9 w hT
      · rw [h]; exact no_of (V := 0) (.int _ _) noe9 w hT
      · exact no_of (no_sym (lo := 10) (hi := 30) ⟨by omega, by omega⟩ (by decide +kernel) (by decide +kernel) (by decide +kernel)) nog9 w hT
    · rcases Int.lt_trichotomy (symI V) 10 with h | h | h
      · exact no_of (no_sym (lo := 0) (hi := 9) ⟨by omega, by omega⟩ (by decide +kernel) (by decide +kernel) (by decide +kernel)) nol10 w hT
      · rw [h]; exact no_of (V := 0) (.int _ _) noe10 w hT
      · exact no_of (no_sym (lo := 11) (hi := 30) ⟨by omega, by omega⟩ (by decide +kernel) (by decide +kernel) (by decide +kernel)) nog10 w hT
    · rcases Int.lt_trichotomy (symI V) 11 with h | h | h
      · exact no_of (no_sym (lo := 0) (hi := 10) ⟨by omega, by omega⟩ (by decide +kernel) (by decide +kernel) (by decide +kernel)) nol11 w hT
      · rw [h]; exact no_of (V := 0) (.int _ _) noe11 w hT
      · exact no_of (no_sym (lo := 12) (hi := 30) ⟨by omega, by omega⟩ (by decide +kernel) (by decide +kernel) (by decide +kernel)) nog11 w hT
    · rcases Int.lt_trichotomy (symI V) 12 with h | h | h
      · exact no_of (no_sym (lo := 0) (hi := 11) ⟨by omega, by omega⟩ (by decide +kernel) (by decide +kernel) (by decide +kernel)) nol12 w hT
      · rw [h]; exact no_of (V := 0) (.int _ _) noe12 w hT
      · exact no_of (no_sym (lo := 13) (hi := 30) ⟨by omega, by omega⟩ (by decide +kernel) (by decide +kernel) (by decide +kernel)) nog12 w hT
    · rcases Int.lt_trichotomy (symI V) 13 with h | h | h
      · exact no_of (no_sym (lo := 0) (hi := 12) ⟨by omega, by omega⟩ (by decide +kernel) (by decide +kernel) (by decide +kernel)) nol13 w hT
      · rw [h]; exact no_of (V := 0) (.int _ _) noe13 w hT
      · exact no_of (no_sym (lo := 14) (hi := 30) ⟨by omega, by omega⟩ (by decide +kernel) (by decide +kernel) (by decide +kernel)) nog13 w hT
    · rcases Int.lt_trichotomy (symI V) 14 with h | h | h
      · exact no_of (no_sym (lo := 0) (hi := 13) ⟨by omega, by omega⟩ (by decide +kernel) (by decide +kernel) (by decide +kernel)) nol14 w hT
      · rw [h]; exact no_of (V := 0) (.int _ _) noe14 w hT
      · exact no_of (no_sym (lo := 15) (hi := 30) ⟨by omega, by omega⟩ (by decide +kernel) (by decide +kernel) (by decide +kernel)) nog14 w hT
    · rcases Int.lt_trichotomy (symI V) 15 with h | h | h
      · exact no_of (no_sym (lo := 0) (hi := 14) ⟨by omega, by omega⟩ (by decide +kernel) (by decide +kernel) (by decide +kernel)) nol15 w hT
      · rw [h]; exact no_of (V := 0) (.int _ _) noe15 w hT
      · exact no_of (no_sym (lo := 16) (hi := 30) ⟨by omega, by omega⟩ (by decide +kernel) (by decide +kernel) (by decide +kernel)) nog15 w hT
    · rcases Int.lt_trichotomy (symI V) 16 with h | h | h
      · exact no_of (no_sym (lo := 0) (hi := 15) ⟨by omega, by omega⟩ (by decide +kernel) (by decide +kernel) (by decide +kernel)) nol16 w hT
      · rw [h]; exact no_of (V := 0) (.int _ _) noe16 w hT
      · exact no_of (no_sym (lo := 17) (hi := 30) ⟨by omega, by omega⟩ (by decide +kernel) (by decide +kernel) (by decide +kernel)) nog16 w hT
    · rcases Int.lt_trichotomy (symI V) 17 with h | h | h
      · exact no_of (no_sym (lo := 0) (hi := 16) ⟨by omega, by omega⟩ (by decide +kernel) (by decide +kernel) (by decide +kernel)) nol17 w hT
      · rw [h]; exact no_of (V := 0) (.int _ _) noe17 w hT
      · exact no_of (no_sym (lo := 18) (hi := 30) ⟨by omega, by omega⟩ (by decide +kernel) (by decide +kernel) (by decide +kernel)) nog17 w hT
    · rcases Int.lt_trichotomy (symI V) 18 with h | h | h
      · exact no_of (no_sym (lo := 0) (hi := 17) ⟨by omega, by omega⟩ (by decide +kernel) (by decide +kernel) (by decide +kernel)) nol18 w hT
      · rw [h]; exact no_of (V := 0) (.int _ _) noe18 w hT
      · exact no_of (no_sym (lo := 19) (hi := 30) ⟨by omega, by omega⟩ (by decide +kernel) (by decide +kernel) (by decide +kernel)) nog18 w hT
    · rcases Int.lt_trichotomy (symI V) 19 with h | h | h
      · exact no_of (no_sym (lo := 0) (hi := 18) ⟨by omega, by omega⟩ (by decide +kernel) (by decide +kernel) (by decide +kernel)) nol19 w hT
      · rw [h]; exact no_of (V := 0) (.int _ _) noe19 w hT
      · exact no_of (no_sym (lo := 20) (hi := 30) ⟨by omega, by omega⟩ (by decide +kernel) (by decide +kernel) (by decide +kernel)) nog19 w hT
    · rcases Int.lt_trichotomy (symI V) 20 with h | h | h
      · exact no_of (no_sym (lo := 0) (hi := 19) ⟨by omega, by omega⟩ (by decide +kernel) (by decide +kernel) (by decide +kernel)) nol20 w hT
      · rw [h]; exact no_of (V := 0) (.int _ _) noe20 w hT
      · exact no_of (no_sym (lo := 21) (hi := 30) ⟨by omega, by omega⟩ (by decide +kernel) (by decide +kernel) (by decide +kernel)) nog20 w hT
end Go.Proofs.YtigdbaicoiepiaaGreatDoor.X
