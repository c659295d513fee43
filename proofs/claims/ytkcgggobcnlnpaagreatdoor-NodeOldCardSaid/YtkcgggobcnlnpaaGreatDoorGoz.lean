/- NodeOld: every call returns true. -/
import Derived.Test.YtkcgggobcnlnpaaGreatDoorGot
namespace Go.Proofs.YtkcgggobcnlnpaaGreatDoor.X
open Go.RowKit S
theorem no_of {k e : Int} {c E K : Nat} {ea : Value} (hE : E < 2 ^ 64) (hK : symI K = k) (hc : c ≤ 24) (H : HV hashN c (vOf k c E K)) (hea : VRel (startR 20 (vOf k c E K)) ea (.int .i64 e))
    (hr : okTrue ((goF Tryz.prog 20 (orK (KA [15] 0 1) (orK (KO c) (orK (KM 20 [4, 9] Goqa_s) (orK (KM 20 [9, 10, 11] Goqb_s) (orK (KM 20 [9, 10, 13] Goqc_s) (orK (KM 20 [10, 11] Goqd_s) (orK (KM 20 [10, 11] Goqe_s) (orK (KM 20 [10, 11] Goqf_s) (KM 20 [10] Goqg_s))))))))) 10000000).call 3 [.complex .f64 19 cK, ea] (start0 20 0 1)) = true) (w : World) (hT : Lib.Utf8Tabs 0 1 w) :
    Calls Tryz.prog 3 #[.int .i64 k, .int .i64 e] w fun r w' => r = .returned (.bool true) ∧ Below w.heap.size w w' :=
  true_of_runF (V := vOf k c E K) (n := 10000000) (K := orK (KA [15] 0 1) (orK (KO c) (orK (KM 20 [4, 9] Goqa_s) (orK (KM 20 [9, 10, 11] Goqb_s) (orK (KM 20 [9, 10, 13] Goqc_s) (orK (KM 20 [10, 11] Goqd_s) (orK (KM 20 [10, 11] Goqe_s) (orK (KM 20 [10, 11] Goqf_s) (KM 20 [10] Goqg_s))))))))) (args := [.complex .f64 19 cK, ea]) (args' := [.int .i64 k, .int .i64 e]) follows (known_or (known_KA (by decide) (by decide) fun g hg => by rw [List.mem_singleton.1 hg]; exact awake24o) (known_or (known_KO hc H) (known_or (known_KM (Goqa_good hc H)) (known_or (known_KM (Goqb_good hc H)) (known_or (known_KM (Goqc_good hc H)) (known_or (known_KM (Goqd_good hc H)) (known_or (known_KM (Goqe_good hc H)) (known_or (known_KM (Goqf_good hc H)) (known_KM (Goqg_good hc H)))))))))) (by decide) (by decide) (by decide) hr
    (.cons _ _ _ _ (.sstr 19 cK ⟨19, vOf k c E K, 0⟩ _ rfl (by rw [cK_sv, vOf_K hE hK])) (.cons _ _ _ _ hea .nil)) w hT
theorem nodeOld_any (k e : Int) (w : World) (hk : -9223372036854775808 ≤ k ∧ k ≤ 9223372036854775807) (he : -9223372036854775808 ≤ e ∧ e ≤ 9223372036854775807) (hT : Lib.Utf8Tabs 0 1 w) :
    Calls Tryz.prog 3 #[.int .i64 k, .int .i64 e] w fun r w' => r = .returned (.bool true) ∧ Below w.heap.size w w' := by
  obtain ⟨K, hK⟩ := symI_all k
  obtain ⟨c, hc, h1, h2⟩ := cls k
  have hE : (-2 - e).toNat < 2 ^ 64 := by omega
  have H := HV_of (E := (-2 - e).toNat) hE hK (by omega) hk h1 h2
  have hn : e < -1 → VRel (startR 20 (vOf k c (-2 - e).toNat K)) (.complex .f64 19 cE) (.int .i64 e) := fun h =>
    .sstr 19 cE ⟨19, vOf k c (-2 - e).toNat K, 0⟩ _ rfl (by rw [isNeg_sv _ cE_neg, vOf_q hE (by omega)]; exact congrArg (Value.int .i64) (show e = -2 - ((-2 - e).toNat : Int) by omega))
  have hm : e = -1 → VRel (startR 20 (vOf k c (-2 - e).toNat K)) (.int .i64 (Int.negSucc 0)) (.int .i64 e) := fun h => by rw [h]; exact .int _ _
  have hi : 0 ≤ e → e ≤ 1099511627776 → VRel (startR 20 (vOf k c (-2 - e).toNat K)) (.float .f32 (rCode .i64 0 1099511627776)) (.int .i64 e) := fun h h' => rng_of (by kernel_rfl) h h'
  have hb : 1099511627777 ≤ e → VRel (startR 20 (vOf k c (-2 - e).toNat K)) (.float .f32 (rCode .i64 1099511627777 9223372036854775807)) (.int .i64 e) := fun h => rng_of (by kernel_rfl) h he.2
  obtain h | h | ⟨h, h'⟩ | h : e < -1 ∨ e = -1 ∨ (0 ≤ e ∧ e ≤ 1099511627776) ∨ 1099511627777 ≤ e := by omega
  · obtain rfl | rfl | rfl | rfl | rfl : c = 0 ∨ c = 1 ∨ c = 2 ∨ c = 3 ∨ c = 4 := by omega
    · exact no_of hE hK (by omega) H (hn h) no0n w hT
    · exact no_of hE hK (by omega) H (hn h) no1n w hT
    · exact no_of hE hK (by omega) H (hn h) no2n w hT
    · exact no_of hE hK (by omega) H (hn h) no3n w hT
    · exact no_of hE hK (by omega) H (hn h) no4n w hT
  · obtain rfl | rfl | rfl | rfl | rfl : c = 0 ∨ c = 1 ∨ c = 2 ∨ c = 3 ∨ c = 4 := by omega
    · exact no_of hE hK (by omega) H (hm h) no0m w hT
    · exact no_of hE hK (by omega) H (hm h) no1m w hT
    · exact no_of hE hK (by omega) H (hm h) no2m w hT
    · exact no_of hE hK (by omega) H (hm h) no3m w hT
    · exact no_of hE hK (by omega) H (hm h) no4m w hT
  · obtain rfl | rfl | rfl | rfl | rfl : c = 0 ∨ c = 1 ∨ c = 2 ∨ c = 3 ∨ c = 4 := by omega
    · exact no_of hE hK (by omega) H (hi h h') no0i w hT
    · exact no_of hE hK (by omega) H (hi h h') no1i w hT
    · exact no_of hE hK (by omega) H (hi h h') no2i w hT
    · exact no_of hE hK (by omega) H (hi h h') no3i w hT
    · exact no_of hE hK (by omega) H (hi h h') no4i w hT
  · obtain rfl | rfl | rfl | rfl | rfl : c = 0 ∨ c = 1 ∨ c = 2 ∨ c = 3 ∨ c = 4 := by omega
    · exact no_of hE hK (by omega) H (hb h) no0b w hT
    · exact no_of hE hK (by omega) H (hb h) no1b w hT
    · exact no_of hE hK (by omega) H (hb h) no2b w hT
    · exact no_of hE hK (by omega) H (hb h) no3b w hT
    · exact no_of hE hK (by omega) H (hb h) no4b w hT
end Go.Proofs.YtkcgggobcnlnpaaGreatDoor.X
