/- WorldDrift: every call returns true. -/
import Derived.Test.YtigdbaicoiepiaaGreatDoorGdta
import Derived.Test.YtigdbaicoiepiaaGreatDoorGdtb
import Derived.Test.YtigdbaicoiepiaaGreatDoorGdtc
import Derived.Test.YtigdbaicoiepiaaGreatDoorGdtd
import Derived.Test.YtigdbaicoiepiaaGreatDoorGdte
namespace Go.Proofs.YtigdbaicoiepiaaGreatDoor.X
open Go.RowKit S
theorem wdr_of {V : Nat} {e : Int} {x : Value} (hx : VRel (startR 21 V) x (.int .i64 e)) (hr : okTrue ((goF Tryz.prog 21 (orK (KA [14] 2 3) (orK (KSum 445) (KI 21 dsSel))) 10000000).call 4 [x] (start0 21 2 3)) = true) (w : World) (hT : Lib.Utf8Tabs 2 3 w) : Calls Tryz.prog 4 #[.int .i64 e] w fun r w' => r = .returned (.bool true) ∧ Below w.heap.size w w' :=
  true_of_runF (V := V) (n := 10000000) (K := orK (KA [14] 2 3) (orK (KSum 445) (KI 21 dsSel))) (args := [x]) (args' := [.int .i64 e]) follows (known_or (known_KA (by decide) (by decide) fun g hg => by rw [List.mem_singleton.1 hg]; exact awake26r) (known_or (known_KSum sumC) (known_KI dsSel_good))) (by decide) (by decide) (by decide) hr (.cons _ _ _ _ hx .nil) w hT
theorem wdr_sym {V lo hi : Nat} (h : (lo : Int) ≤ symI V ∧ symI V ≤ hi) {c : Nat} (h0 : sOff c = 0) (h1 : sLo c = lo) (h2 : sHi c = hi) : VRel (startR 21 V) (.complex .f32 20 c) (.int .i64 (symI V)) := sym_relB h0 fun _ => by rw [h1, h2]; exact h
theorem worldDrift_any (e : Int) (w : World) (hT : Lib.Utf8Tabs 2 3 w) : Calls Tryz.prog 4 #[.int .i64 e] w fun r w' => r = .returned (.bool true) ∧ Below w.heap.size w w' := by
  obtain ⟨V, rfl⟩ := symI_all e
  by_cases h1 : symI V < 0
  · obtain ⟨m, hm⟩ : ∃ m : Nat, symI V = Int.negSucc m := ⟨(-symI V - 1).toNat, by omega⟩
    rw [hm]
    exact wdr_of (V := 0) (.int _ _) (wdrneg m) w hT
  by_cases h2 : 5000 < symI V
  · obtain ⟨m, hm⟩ : ∃ m : Nat, symI V = Int.ofNat (m + 5001) := ⟨(symI V - 5001).toNat, by show symI V = ((symI V - 5001).toNat + 5001 : Nat); omega⟩
    rw [hm]
    exact wdr_of (V := 0) (.int _ _) (wdrbig m) w hT
  by_cases hwdra : symI V ≤ 117
  · exact wdr_of (wdr_sym (lo := 0) (hi := 117) ⟨by omega, by omega⟩ (by decide +kernel) (by decide +kernel) (by decide +kernel)) wdra w hT
  by_cases hwdrb : symI V ≤ 1000
  · exact wdr_of (wdr_sym (lo := 118) (hi := 1000) ⟨by omega, by omega⟩ (by decide +kernel) (by decide +kernel) (by decide +kernel)) wdrb w hT
  exact wdr_of (wdr_sym (lo := 1001) (hi := 5000) ⟨by omega, by omega⟩ (by decide +kernel) (by decide +kernel) (by decide +kernel)) wdrc w hT
end Go.Proofs.YtigdbaicoiepiaaGreatDoor.X
