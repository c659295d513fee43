/- KeepOne: what the records do, and what is known. -/
import Derived.Test.YtigdbaicoiepiaaGreatDoorKmi
import Derived.Test.YtigdbaicoiepiaaGreatDoorSum
namespace Go.Proofs.YtigdbaicoiepiaaGreatDoor.X
open Go.RowKit S
noncomputable def koF : Seg := ⟨8, [], [], 21, .tuple ⟨[p 21 0, p 42 0, p 47 0, tt]⟩, [(21, r [i 2097152, l0, i 0, i 0] 213), (42, r [p 36 0, p 28 0, p 35 0] 121), (36, r [p 21 0, l0, l0, i 0, ff, ff] 255), (28, r [i 1, i 2, i 0, i 0, l 26 0 2 INF, p 27 0, m0, m0, m0, l0, l0] 118), (26, R [i 0, i 2147483647, i 1, i 1, i 2147483648, i 4294967295, i 2, i 1] 39), (27, r [m0] 591), (35, r [i 1, i 2, i 0, i 0, l 33 0 2 INF, p 34 0, m0, m0, m0, l0, l0] 118), (33, R [i 0, i 2147483647, i 1, i 1, i 2147483648, i 4294967295, i 2, i 1] 39), (34, r [m0] 591), (47, r [i 1, i 2, i 0, i 0, l 46 0 2 INF, l0, l0, l0, l0, l0, l0] 220), (46, R [i 0, i 2147483647, i 1, i 1, i 2147483648, i 4294967295, i 2, i 1] 39)], 69⟩
noncomputable def koA (N : Nat) : Seg := ⟨43, [p 21 0, .agg ⟨[i 1, i N, i 0, ff, i 0, i 0, i 0, i 0, i 0, i 0, l0, s0, l0, i 0, i 0, i 0, i 0, l0]⟩], [(21, r [i 1, i 2, i (N - 1), i 0, l 22 0 2 INF, p 23 0, m0, m0, m0, l0, l0] 118), (22, R [i 0, i 2147483647, i 1, i 1, i 2147483648, i 4294967295, i 2, i 1] 39), (23, r [m0] 591)], 24, i 0, [(21, r [i 1, i 2, i N, i 0, l 22 0 2 INF, p 23 0, m0, m0, m0, l0, l0] 118)], 41⟩
noncomputable def koE (N : Nat) : Seg := ⟨44, [.agg ⟨[i 1, i N, i 0, ff, i 0, i 0, i 0, i 0, i 0, i 0, l0, s0, l0, i 0, i 0, i 0, i 0, l0]⟩], [], 21, .tuple ⟨[l 33 0 2 INF, i 0]⟩, [(33, R (bz 2 (1 + 256 * N)) 5)], 36⟩
noncomputable def koSel (f : FuncId) (args : List Value) : Option Seg :=
  bif Nat.beq f 43 then
    match args with
    | [_, .agg ⟨.int _ (.ofNat k) :: .int _ (.ofNat N) :: _⟩] => bif Nat.beq k 1 && (Nat.blt 0 N && Nat.ble N 40) then some (koA N) else none
    | _ => none
  else bif Nat.beq f 44 then
    match args with
    | [.agg ⟨.int _ (.ofNat k) :: .int _ (.ofNat N) :: _⟩] => bif Nat.beq k 1 && (Nat.blt 0 N && Nat.ble N 40) then some (koE N) else none
    | _ => none
  else none
theorem koA_ok : allFrom (fun i => segOk Tryz.prog 21 Kno 10000000 (koA i)) 40 1 = true := by kernel_rfl
theorem koE_ok : allFrom (fun i => segOk Tryz.prog 21 Kno 10000000 (koE i)) 40 1 = true := by kernel_rfl
theorem koA_good {V : Nat} (N : Nat) (h3 : 0 < N) (h4 : N ≤ 40) : Good Tryz.prog 21 V (koA N) := good_of follows known_no (allFrom_at (j := N) koA_ok (by omega) (by omega))
theorem koE_good {V : Nat} (N : Nat) (h3 : 0 < N) (h4 : N ≤ 40) : Good Tryz.prog 21 V (koE N) := good_of follows known_no (allFrom_at (j := N) koE_ok (by omega) (by omega))
theorem koF_ok : segOk Tryz.prog 21 Kno 10000000 koF = true := by kernel_rfl
theorem koSel_good {V : Nat} : ∀ f args g, koSel f args = some g → Good Tryz.prog 21 V g := by
  intro f args g h
  unfold koSel at h
  cases h1 : Nat.beq f 43 with
  | true =>
    rw [h1] at h
    simp only [cond_true] at h
    split at h
    · rename_i _ k _ N _
      cases h2 : (Nat.beq k 1 && (Nat.blt 0 N && Nat.ble N 40)) with
      | false => rw [h2] at h; cases h
      | true =>
        rw [h2] at h; injection h with h; rw [← h]
        simp only [Bool.and_eq_true] at h2
        have h3 : 0 < N := Nat.le_of_ble_eq_true h2.2.1
        have h4 := Nat.le_of_ble_eq_true h2.2.2
        have q := @koA_good V N h3 h4; assumption
    · cases h
  | false =>
    rw [h1] at h
    simp only [cond_false] at h
    cases h2 : Nat.beq f 44 with
    | false => rw [h2] at h; cases h
    | true =>
      rw [h2] at h
      simp only [cond_true] at h
      split at h
      · rename_i _ k _ N _
        cases h2 : (Nat.beq k 1 && (Nat.blt 0 N && Nat.ble N 40)) with
        | false => rw [h2] at h; cases h
        | true =>
          rw [h2] at h; injection h with h; rw [← h]
          simp only [Bool.and_eq_true] at h2
          have h3 : 0 < N := Nat.le_of_ble_eq_true h2.2.1
          have h4 := Nat.le_of_ble_eq_true h2.2.2
          have q := @koE_good V N h3 h4; assumption
      · cases h
theorem sumCk : SumC Tryz.prog 445 := fun bk o n c w hn h => (sum_any bk o n c w hn h).mono fun _ _ h => ⟨h.1, h.2 ▸ .refl _ _⟩
noncomputable abbrev koK (n r : Nat) : FuncId → List Value → St → Option (Value × St) := orK (KA [7] 2 3) (orK (KRd 21 9 (n + 1) r) (orK (KSum 445) (orK (KS koF) (KI 21 koSel))))
noncomputable def koRun (n r : Nat) : Bool := okTrue ((goF Tryz.prog 21 (koK n r) 10000000).call 3 [.int .i64 (.ofNat n), .complex .f32 20 0] (start0 21 2 3))
end Go.Proofs.YtigdbaicoiepiaaGreatDoor.X
