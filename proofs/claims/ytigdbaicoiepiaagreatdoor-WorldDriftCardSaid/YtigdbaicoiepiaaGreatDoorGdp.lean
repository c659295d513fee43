/- WorldDrift: the names are known. -/
import Derived.Test.YtigdbaicoiepiaaGreatDoorGdoa
import Derived.Test.YtigdbaicoiepiaaGreatDoorGdob
import Derived.Test.YtigdbaicoiepiaaGreatDoorGdoc
import Derived.Test.YtigdbaicoiepiaaGreatDoorGdod
import Derived.Test.YtigdbaicoiepiaaGreatDoorGdoe
import Derived.Test.YtigdbaicoiepiaaGreatDoorGdof
import Derived.Test.YtigdbaicoiepiaaGreatDoorGdog
import Derived.Test.YtigdbaicoiepiaaGreatDoorGdoh
import Derived.Test.YtigdbaicoiepiaaGreatDoorGdoi
import Derived.Test.YtigdbaicoiepiaaGreatDoorGdoj
import Derived.Test.YtigdbaicoiepiaaGreatDoorGdok
import Derived.Test.YtigdbaicoiepiaaGreatDoorGdol
import Derived.Test.YtigdbaicoiepiaaGreatDoorSum
namespace Go.Proofs.YtigdbaicoiepiaaGreatDoor.X
open Go.RowKit S
theorem dsS_good {V : Nat} (i : Nat) (h : i < 676) : Good Tryz.prog 21 V (dsS i) := by
  by_cases h0 : i < 338
  · have q := allFrom_at (j := i) Gdoa_ok (by omega) (by omega); exact good_of follows known_no q
  have q := allFrom_at (j := i) Gdob_ok (by omega) (by omega); exact good_of follows known_no q
theorem dsO_good {V : Nat} (i : Nat) (h : i < 676) : Good Tryz.prog 21 V (dsO i) := by
  by_cases h0 : i < 75
  · have q := allFrom_at (j := i) Gdoc_ok (by omega) (by omega); exact good_of follows known_no q
  by_cases h75 : i < 150
  · have q := allFrom_at (j := i) Gdod_ok (by omega) (by omega); exact good_of follows known_no q
  by_cases h150 : i < 225
  · have q := allFrom_at (j := i) Gdoe_ok (by omega) (by omega); exact good_of follows known_no q
  by_cases h225 : i < 300
  · have q := allFrom_at (j := i) Gdof_ok (by omega) (by omega); exact good_of follows known_no q
  by_cases h300 : i < 375
  · have q := allFrom_at (j := i) Gdog_ok (by omega) (by omega); exact good_of follows known_no q
  by_cases h375 : i < 450
  · have q := allFrom_at (j := i) Gdoh_ok (by omega) (by omega); exact good_of follows known_no q
  by_cases h450 : i < 525
  · have q := allFrom_at (j := i) Gdoi_ok (by omega) (by omega); exact good_of follows known_no q
  by_cases h525 : i < 600
  · have q := allFrom_at (j := i) Gdoj_ok (by omega) (by omega); exact good_of follows known_no q
  by_cases h600 : i < 675
  · have q := allFrom_at (j := i) Gdok_ok (by omega) (by omega); exact good_of follows known_no q
  have q := allFrom_at (j := i) Gdol_ok (by omega) (by omega); exact good_of follows known_no q
theorem dsSel_good {V : Nat} : ∀ f args g, dsSel f args = some g → Good Tryz.prog 21 V g := by
  intro f args g h
  unfold dsSel at h
  cases h1 : Nat.beq f 19 with
  | true =>
    rw [h1] at h
    simp only [cond_true] at h
    split at h
    · rename_i i
      cases h2 : Nat.blt i 676 with
      | false => rw [h2] at h; cases h
      | true => rw [h2] at h; injection h with h; rw [← h]; exact dsS_good i (Nat.le_of_ble_eq_true h2)
    · cases h
  | false =>
    rw [h1] at h
    simp only [cond_false] at h
    cases h2 : Nat.beq f 18 with
    | false => rw [h2] at h; cases h
    | true =>
      rw [h2] at h
      simp only [cond_true] at h
      split at h
      · split at h
        · rename_i a b _ _
          rw [forceN_eq] at h
          generalize (a.toNat - 97) + 26 * (b.toNat - 97) = i at h
          cases h3 : Nat.blt i 676 with
          | false => rw [h3] at h; cases h
          | true => rw [h3] at h; injection h with h; rw [← h]; exact dsO_good i (Nat.le_of_ble_eq_true h3)
        · cases h
      · cases h
theorem sumC : SumC Tryz.prog 445 := fun bk o n c w hn h => (sum_any bk o n c w hn h).mono fun _ _ h => ⟨h.1, h.2 ▸ .refl _ _⟩
end Go.Proofs.YtigdbaicoiepiaaGreatDoor.X
