/- NodeOld: what functions of the names give, run by the kernel. -/
import Derived.Test.YtkcgggobcnlnpaaGreatDoorOaa
import Derived.Test.YtkcgggobcnlnpaaGreatDoorOab
import Derived.Test.YtkcgggobcnlnpaaGreatDoorOac
import Derived.Test.YtkcgggobcnlnpaaGreatDoorOad
import Derived.Test.YtkcgggobcnlnpaaGreatDoorOae
import Derived.Test.YtkcgggobcnlnpaaGreatDoorSum
namespace Go.Proofs.YtkcgggobcnlnpaaGreatDoor.X
open Go.RowKit S
def isF : Value → Bool | .complex .f64 _ _ => true | _ => false
/-- Check sums of rows that hold fields. -/
noncomputable def anyFl (l : List Value) : Bool := List.rec (motive := fun _ => Bool) false (fun v _ r => isF v || r) l
noncomputable def KSumS (fS : Nat) (f : FuncId) (args : List Value) (s : St) : Option (Value × St) :=
  bif Nat.beq f fS then
    match args with
    | [.slice (some a) n _] => (match getCells s a with | some cs => bif anyFl (takeL n (dropL a.off cs)) then KSum fS f args s else none | none => none)
    | _ => none
  else none
theorem known_KSumS {P : Program} {G V fS : Nat} (h3 : SumC P fS) : Known P G V (KSumS fS) := by
  intro f args s v s2 hk b ρ w args' hbG hw hl cs
  unfold KSumS at hk
  obtain ⟨_, hk⟩ := bif_some hk
  split at hk
  · split at hk
    · obtain ⟨_, hk⟩ := bif_some hk
      exact known_KSum h3 hk hbG hw hl cs
    · cases hk
  · cases hk
theorem sumC : SumC Tryz.prog 493 := fun bk o n c w hn h => (sum_any bk o n c w hn h).mono fun _ _ q => ⟨q.1, q.2 ▸ Below.refl _ _⟩
/-- All that is known of the names: the c-th is the first that is the node's own. -/
noncomputable abbrev KO (c : Nat) : FuncId → List Value → St → Option (Value × St) :=
  orK (KStr 20 c 5 1) (orK (KNm 20 c 133 0 (outH .u32 c)) (orK (KNm 20 c 23 0 (outH .i64 c)) (orK (KNm 20 c 389 1 (fun _ => some (.bool true))) (orK (KNm 20 c 214 9 (fun _ => some (.bool true))) (KSumS 493)))))
theorem known_6 {P : Program} {G V : Nat} {K1 K2 K3 K4 K5 K6 : FuncId → List Value → St → Option (Value × St)} (h1 : Known P G V K1) (h2 : Known P G V K2) (h3 : Known P G V K3) (h4 : Known P G V K4) (h5 : Known P G V K5) (h6 : Known P G V K6) :
    Known P G V (orK K1 (orK K2 (orK K3 (orK K4 (orK K5 K6))))) :=
  known_or h1 (known_or h2 (known_or h3 (known_or h4 (known_or h5 h6))))
theorem tc00 : tcOk 0 0 = true := by kernel_rfl
theorem cE_neg : isNeg cE = true := by kernel_rfl
/-- Some number between bounds stands for this one. -/
def rngK (lo hi : Nat) : Bool := decide (rK (rCode .i64 lo hi) = .i64) && (Nat.beq (rLo (rCode .i64 lo hi)) lo && Nat.beq (rHi (rCode .i64 lo hi)) hi)
theorem rng_of {ρ : Ren} {lo hi : Nat} {e : Int} (hk : rngK lo hi = true) (h1 : (lo : Int) ≤ e) (h2 : e ≤ (hi : Int)) : VRel ρ (.float .f32 (rCode .i64 lo hi)) (.int .i64 e) := by
  unfold rngK at hk
  simp only [Bool.and_eq_true, decide_eq_true_eq] at hk
  have g1 := Nat.eq_of_beq_eq_true hk.2.1
  have g2 := Nat.eq_of_beq_eq_true hk.2.2
  have := VRel.rng (ρ := ρ) (rCode .i64 lo hi) e.toNat ⟨by omega, by omega⟩
  rw [hk.1, Int.toNat_of_nonneg (by omega)] at this
  exact this
/-- What is known of the node's own name. -/
noncomputable abbrev KOwn : FuncId → List Value → St → Option (Value × St) :=
  orK (KNo 20 133 0 (mkRv .u32 0 2147483647)) (orK (KNo 20 23 0 (mkRv .i64 0 2147483647)) (orK (KNo 20 389 1 (some (.bool true))) (orK (KNo 20 214 9 (some (.bool true))) (KSumS 493))))
theorem known_5 {P : Program} {G V : Nat} {K2 K3 K4 K5 K6 : FuncId → List Value → St → Option (Value × St)} (h2 : Known P G V K2) (h3 : Known P G V K3) (h4 : Known P G V K4) (h5 : Known P G V K5) (h6 : Known P G V K6) :
    Known P G V (orK K2 (orK K3 (orK K4 (orK K5 K6)))) := known_or h2 (known_or h3 (known_or h4 (known_or h5 h6)))
theorem known_KOh {h : Nat → Nat} {V c : Nat} (hc : c ≤ 24) (H : HV h c V) (h1 : ∀ i, i < 1376 → Good Tryz.prog 20 V (pSeg 5 20 (20 + 1) (.int .i64 (stX i)) (nameV ((i + 1) % 676))))
    (h2 : ∀ j, j < 676 → Good Tryz.prog 20 V (pSeg 133 20 (20 + 0) (nameV j) (.int .u32 (h j : Nat)))) (h3 : ∀ j, j < 676 → Good Tryz.prog 20 V (pSeg 23 20 (20 + 0) (nameV j) (.int .i64 (h j : Nat))))
    (h4 : ∀ j, j < 676 → Good Tryz.prog 20 V (pSeg 389 20 (20 + 1) (nameV j) (.bool true))) (h5 : ∀ j, j < 676 → Good Tryz.prog 20 V (pSeg 214 20 (20 + 9) (nameV j) (.bool true))) : Known Tryz.prog 20 V (KO c) := by
  have k1 : Known Tryz.prog 20 V (KStr 20 c 5 1) := known_KStr H hc h1
  have k2 : Known Tryz.prog 20 V (KNm 20 c 133 0 (outH .u32 c)) := known_KNm (res := fun j => .int .u32 (h j : Nat)) H h2 (fun _ _ => ren_int) fun _ hm _ ha _ _ hv => outH_ok H hm ha hv
  have k3 : Known Tryz.prog 20 V (KNm 20 c 23 0 (outH .i64 c)) := known_KNm (res := fun j => .int .i64 (h j : Nat)) H h3 (fun _ _ => ren_int) fun _ hm _ ha _ _ hv => outH_ok H hm ha hv
  have k4 : Known Tryz.prog 20 V (KNm 20 c 389 1 (fun _ => some (.bool true))) := known_KNm (res := fun _ => .bool true) H h4 (fun _ _ => ren_bool) fun _ _ _ ha _ _ hv => by injection ha with ha; subst ha; exact hv
  have k5 : Known Tryz.prog 20 V (KNm 20 c 214 9 (fun _ => some (.bool true))) := known_KNm (res := fun _ => .bool true) H h5 (fun _ _ => ren_bool) fun _ _ _ ha _ _ hv => by injection ha with ha; subst ha; exact hv
  have k6 : Known Tryz.prog 20 V (KSumS 493) := known_KSumS sumC
  exact @known_6 _ _ _ _ _ _ _ _ _ @k1 @k2 @k3 @k4 @k5 @k6
theorem known_KOwnh {h : Nat → Nat} {V c : Nat} (H : HV h c V)
    (h2 : ∀ j, j < 676 → Good Tryz.prog 20 V (pSeg 133 20 (20 + 0) (nameV j) (.int .u32 (h j : Nat)))) (h3 : ∀ j, j < 676 → Good Tryz.prog 20 V (pSeg 23 20 (20 + 0) (nameV j) (.int .i64 (h j : Nat))))
    (h4 : ∀ j, j < 676 → Good Tryz.prog 20 V (pSeg 389 20 (20 + 1) (nameV j) (.bool true))) (h5 : ∀ j, j < 676 → Good Tryz.prog 20 V (pSeg 214 20 (20 + 9) (nameV j) (.bool true))) : Known Tryz.prog 20 V KOwn := by
  have k2 : Known Tryz.prog 20 V (KNm 20 c 133 0 (outH .u32 c)) := known_KNm (res := fun j => .int .u32 (h j : Nat)) H h2 (fun _ _ => ren_int) fun _ hm _ ha _ _ hv => outH_ok H hm ha hv
  have k3 : Known Tryz.prog 20 V (KNm 20 c 23 0 (outH .i64 c)) := known_KNm (res := fun j => .int .i64 (h j : Nat)) H h3 (fun _ _ => ren_int) fun _ hm _ ha _ _ hv => outH_ok H hm ha hv
  have k4 : Known Tryz.prog 20 V (KNm 20 c 389 1 (fun _ => some (.bool true))) := known_KNm (res := fun _ => .bool true) H h4 (fun _ _ => ren_bool) fun _ _ _ ha _ _ hv => by injection ha with ha; subst ha; exact hv
  have k5 : Known Tryz.prog 20 V (KNm 20 c 214 9 (fun _ => some (.bool true))) := known_KNm (res := fun _ => .bool true) H h5 (fun _ _ => ren_bool) fun _ _ _ ha _ _ hv => by injection ha with ha; subst ha; exact hv
  have k6 : Known Tryz.prog 20 V (KSumS 493) := known_KSumS sumC
  have j2 : Known Tryz.prog 20 V (KNo 20 133 0 (mkRv .u32 0 2147483647)) := known_KNo @k2 (outG_self _ _ _ _ _) tc00
  have j3 : Known Tryz.prog 20 V (KNo 20 23 0 (mkRv .i64 0 2147483647)) := known_KNo @k3 (outG_self _ _ _ _ _) tc00
  have j4 : Known Tryz.prog 20 V (KNo 20 389 1 (some (.bool true))) := known_KNo @k4 rfl tc00
  have j5 : Known Tryz.prog 20 V (KNo 20 214 9 (some (.bool true))) := known_KNo @k5 rfl tc00
  exact @known_5 _ _ _ _ _ _ _ _ @j2 @j3 @j4 @j5 @k6
theorem known_KOwn {V c : Nat} (_ : c ≤ 24) (H : HV hashN c V) : Known Tryz.prog 20 V KOwn :=
  known_KOwnh H (fun j hj => ha_good j hj) (fun j hj => hb_good j hj) (fun j hj => na_good j hj) (fun j hj => nb_good j hj)
theorem known_KO {V c : Nat} (hc : c ≤ 24) (H : HV hashN c V) : Known Tryz.prog 20 V (KO c) :=
  known_KOh hc H (fun i hi => st_good i hi) (fun j hj => ha_good j hj) (fun j hj => hb_good j hj) (fun j hj => na_good j hj) (fun j hj => nb_good j hj)
def okM (j : Nat) : Nat → Bool
  | 0 => true
  | m + 1 => (Nat.ble 2147483648 (hashN ((j + m) % 676)) && Nat.ble (hashN ((j + m) % 676)) 4294967295) && okM j m
def okC (j c : Nat) : Bool := Nat.ble (hashN ((j + c) % 676)) 2147483647 && okM j c
theorem okM_ok {j : Nat} : ∀ {c : Nat}, okM j c = true → ∀ m, m < c → 2147483648 ≤ hashN ((j + m) % 676) ∧ hashN ((j + m) % 676) ≤ 4294967295
  | 0, _, _, h => by omega
  | c + 1, h, m, hm => by
    have h' : ((Nat.ble 2147483648 (hashN ((j + c) % 676)) && Nat.ble (hashN ((j + c) % 676)) 4294967295) && okM j c) = true := h
    simp only [Bool.and_eq_true] at h'
    by_cases e : m = c
    · subst e; exact ⟨Nat.le_of_ble_eq_true h'.1.1, Nat.le_of_ble_eq_true h'.1.2⟩
    · exact okM_ok h'.2 m (by omega)
theorem okC_ok {j c : Nat} (h : okC j c = true) : hashN ((j + c) % 676) ≤ 2147483647 ∧ ∀ m, m < c → 2147483648 ≤ hashN ((j + m) % 676) ∧ hashN ((j + m) % 676) ≤ 4294967295 := by
  unfold okC at h
  rw [Bool.and_eq_true] at h
  exact ⟨Nat.le_of_ble_eq_true h.1, okM_ok h.2⟩
/-- Each number has its class. -/
theorem cls (k : Int) : ∃ c, c ≤ 4 ∧ hashN (jAt k c) ≤ 2147483647 ∧ ∀ m, m < c → 2147483648 ≤ hashN (jAt k m) ∧ hashN (jAt k m) ≤ 4294967295 := by
  have hj : ∀ m, jAt k m = (jAt k 0 + m) % 676 := fun m => by unfold jAt; omega
  have hall : allFrom (fun j => okC j 0 || (okC j 1 || (okC j 2 || (okC j 3 || okC j 4)))) 676 0 = true := by kernel_rfl
  have h0 := allFrom_at hall (Nat.zero_le _) (show jAt k 0 < 0 + 676 by have := jAt_lt k 0; omega)
  have use : ∀ c, c ≤ 4 → okC (jAt k 0) c = true → ∃ c, c ≤ 4 ∧ hashN (jAt k c) ≤ 2147483647 ∧ ∀ m, m < c → 2147483648 ≤ hashN (jAt k m) ∧ hashN (jAt k m) ≤ 4294967295 := fun c hc h => by
    obtain ⟨h1, h2⟩ := okC_ok h
    exact ⟨c, hc, by rw [hj]; exact h1, fun m hm => by rw [hj m]; exact h2 m hm⟩
  simp only [Bool.or_eq_true] at h0
  rcases h0 with h | h | h | h | h
  · exact use 0 (by omega) h
  · exact use 1 (by omega) h
  · exact use 2 (by omega) h
  · exact use 3 (by omega) h
  · exact use 4 (by omega) h
end Go.Proofs.YtkcgggobcnlnpaaGreatDoor.X
