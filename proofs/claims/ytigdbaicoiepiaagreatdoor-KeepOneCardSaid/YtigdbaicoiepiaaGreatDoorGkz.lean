/- KeepOne: every call returns true. -/
import Derived.Test.YtigdbaicoiepiaaGreatDoorGka
import Derived.Test.YtigdbaicoiepiaaGreatDoorGkta
import Derived.Test.YtigdbaicoiepiaaGreatDoorGktb
import Derived.Test.YtigdbaicoiepiaaGreatDoorGktc
import Derived.Test.YtigdbaicoiepiaaGreatDoorGktd
import Derived.Test.YtigdbaicoiepiaaGreatDoorGkte
import Derived.Test.YtigdbaicoiepiaaGreatDoorGktf
import Derived.Test.YtigdbaicoiepiaaGreatDoorGktg
import Derived.Test.YtigdbaicoiepiaaGreatDoorGkth
import Derived.Test.YtigdbaicoiepiaaGreatDoorGkti
import Derived.Test.YtigdbaicoiepiaaGreatDoorGktj
import Derived.Test.YtigdbaicoiepiaaGreatDoorGktk
import Derived.Test.YtigdbaicoiepiaaGreatDoorGktl
import Derived.Test.YtigdbaicoiepiaaGreatDoorGktm
import Derived.Test.YtigdbaicoiepiaaGreatDoorGktn
import Derived.Test.YtigdbaicoiepiaaGreatDoorGkto
import Derived.Test.YtigdbaicoiepiaaGreatDoorGktp
import Derived.Test.YtigdbaicoiepiaaGreatDoorGktq
import Derived.Test.YtigdbaicoiepiaaGreatDoorGktr
namespace Go.Proofs.YtigdbaicoiepiaaGreatDoor.X
open Go.RowKit S
theorem ko1 (r : Nat) (h : r ≤ 1) : koRun 1 r = true := by
  exact allFrom_at ko_1_0 (by omega) (by omega)
theorem ko2 (r : Nat) (h : r ≤ 2) : koRun 2 r = true := by
  exact allFrom_at ko_2_0 (by omega) (by omega)
theorem ko3 (r : Nat) (h : r ≤ 3) : koRun 3 r = true := by
  exact allFrom_at ko_3_0 (by omega) (by omega)
theorem ko4 (r : Nat) (h : r ≤ 4) : koRun 4 r = true := by
  exact allFrom_at ko_4_0 (by omega) (by omega)
theorem ko5 (r : Nat) (h : r ≤ 5) : koRun 5 r = true := by
  exact allFrom_at ko_5_0 (by omega) (by omega)
theorem ko6 (r : Nat) (h : r ≤ 6) : koRun 6 r = true := by
  exact allFrom_at ko_6_0 (by omega) (by omega)
theorem ko7 (r : Nat) (h : r ≤ 7) : koRun 7 r = true := by
  exact allFrom_at ko_7_0 (by omega) (by omega)
theorem ko8 (r : Nat) (h : r ≤ 8) : koRun 8 r = true := by
  exact allFrom_at ko_8_0 (by omega) (by omega)
theorem ko9 (r : Nat) (h : r ≤ 9) : koRun 9 r = true := by
  exact allFrom_at ko_9_0 (by omega) (by omega)
theorem ko10 (r : Nat) (h : r ≤ 10) : koRun 10 r = true := by
  by_cases h0 : r < 10
  · exact allFrom_at ko_10_0 (by omega) (by omega)
  exact allFrom_at ko_10_10 (by omega) (by omega)
theorem ko11 (r : Nat) (h : r ≤ 11) : koRun 11 r = true := by
  by_cases h0 : r < 11
  · exact allFrom_at ko_11_0 (by omega) (by omega)
  exact allFrom_at ko_11_11 (by omega) (by omega)
theorem ko12 (r : Nat) (h : r ≤ 12) : koRun 12 r = true := by
  by_cases h0 : r < 11
  · exact allFrom_at ko_12_0 (by omega) (by omega)
  exact allFrom_at ko_12_11 (by omega) (by omega)
theorem ko13 (r : Nat) (h : r ≤ 13) : koRun 13 r = true := by
  by_cases h0 : r < 11
  · exact allFrom_at ko_13_0 (by omega) (by omega)
  exact allFrom_at ko_13_11 (by omega) (by omega)
theorem ko14 (r : Nat) (h : r ≤ 14) : koRun 14 r = true := by
  by_cases h0 : r < 11
  · exact allFrom_at ko_14_0 (by omega) (by omega)
  exact allFrom_at ko_14_11 (by omega) (by omega)
theorem ko15 (r : Nat) (h : r ≤ 15) : koRun 15 r = true := by
  by_cases h0 : r < 11
  · exact allFrom_at ko_15_0 (by omega) (by omega)
  exact allFrom_at ko_15_11 (by omega) (by omega)
theorem ko16 (r : Nat) (h : r ≤ 16) : koRun 16 r = true := by
  by_cases h0 : r < 11
  · exact allFrom_at ko_16_0 (by omega) (by omega)
  exact allFrom_at ko_16_11 (by omega) (by omega)
theorem ko17 (r : Nat) (h : r ≤ 17) : koRun 17 r = true := by
  by_cases h0 : r < 11
  · exact allFrom_at ko_17_0 (by omega) (by omega)
  by_cases h11 : r < 17
  · exact allFrom_at ko_17_11 (by omega) (by omega)
  exact allFrom_at ko_17_17 (by omega) (by omega)
theorem ko18 (r : Nat) (h : r ≤ 18) : koRun 18 r = true := by
  by_cases h0 : r < 10
  · exact allFrom_at ko_18_0 (by omega) (by omega)
  by_cases h10 : r < 18
  · exact allFrom_at ko_18_10 (by omega) (by omega)
  exact allFrom_at ko_18_18 (by omega) (by omega)
theorem ko19 (r : Nat) (h : r ≤ 19) : koRun 19 r = true := by
  by_cases h0 : r < 10
  · exact allFrom_at ko_19_0 (by omega) (by omega)
  by_cases h10 : r < 18
  · exact allFrom_at ko_19_10 (by omega) (by omega)
  exact allFrom_at ko_19_18 (by omega) (by omega)
theorem ko20 (r : Nat) (h : r ≤ 20) : koRun 20 r = true := by
  by_cases h0 : r < 10
  · exact allFrom_at ko_20_0 (by omega) (by omega)
  by_cases h10 : r < 18
  · exact allFrom_at ko_20_10 (by omega) (by omega)
  exact allFrom_at ko_20_18 (by omega) (by omega)
theorem ko21 (r : Nat) (h : r ≤ 21) : koRun 21 r = true := by
  by_cases h0 : r < 10
  · exact allFrom_at ko_21_0 (by omega) (by omega)
  by_cases h10 : r < 18
  · exact allFrom_at ko_21_10 (by omega) (by omega)
  exact allFrom_at ko_21_18 (by omega) (by omega)
theorem ko22 (r : Nat) (h : r ≤ 22) : koRun 22 r = true := by
  by_cases h0 : r < 10
  · exact allFrom_at ko_22_0 (by omega) (by omega)
  by_cases h10 : r < 18
  · exact allFrom_at ko_22_10 (by omega) (by omega)
  by_cases h18 : r < 22
  · exact allFrom_at ko_22_18 (by omega) (by omega)
  exact allFrom_at ko_22_22 (by omega) (by omega)
theorem ko23 (r : Nat) (h : r ≤ 23) : koRun 23 r = true := by
  by_cases h0 : r < 10
  · exact allFrom_at ko_23_0 (by omega) (by omega)
  by_cases h10 : r < 18
  · exact allFrom_at ko_23_10 (by omega) (by omega)
  by_cases h18 : r < 23
  · exact allFrom_at ko_23_18 (by omega) (by omega)
  exact allFrom_at ko_23_23 (by omega) (by omega)
theorem ko24 (r : Nat) (h : r ≤ 24) : koRun 24 r = true := by
  by_cases h0 : r < 10
  · exact allFrom_at ko_24_0 (by omega) (by omega)
  by_cases h10 : r < 17
  · exact allFrom_at ko_24_10 (by omega) (by omega)
  by_cases h17 : r < 23
  · exact allFrom_at ko_24_17 (by omega) (by omega)
  exact allFrom_at ko_24_23 (by omega) (by omega)
theorem ko25 (r : Nat) (h : r ≤ 25) : koRun 25 r = true := by
  by_cases h0 : r < 9
  · exact allFrom_at ko_25_0 (by omega) (by omega)
  by_cases h9 : r < 17
  · exact allFrom_at ko_25_9 (by omega) (by omega)
  by_cases h17 : r < 23
  · exact allFrom_at ko_25_17 (by omega) (by omega)
  exact allFrom_at ko_25_23 (by omega) (by omega)
theorem ko26 (r : Nat) (h : r ≤ 26) : koRun 26 r = true := by
  by_cases h0 : r < 9
  · exact allFrom_at ko_26_0 (by omega) (by omega)
  by_cases h9 : r < 16
  · exact allFrom_at ko_26_9 (by omega) (by omega)
  by_cases h16 : r < 22
  · exact allFrom_at ko_26_16 (by omega) (by omega)
  by_cases h22 : r < 26
  · exact allFrom_at ko_26_22 (by omega) (by omega)
  exact allFrom_at ko_26_26 (by omega) (by omega)
theorem ko27 (r : Nat) (h : r ≤ 27) : koRun 27 r = true := by
  by_cases h0 : r < 9
  · exact allFrom_at ko_27_0 (by omega) (by omega)
  by_cases h9 : r < 16
  · exact allFrom_at ko_27_9 (by omega) (by omega)
  by_cases h16 : r < 22
  · exact allFrom_at ko_27_16 (by omega) (by omega)
  by_cases h22 : r < 27
  · exact allFrom_at ko_27_22 (by omega) (by omega)
  exact allFrom_at ko_27_27 (by omega) (by omega)
theorem ko28 (r : Nat) (h : r ≤ 28) : koRun 28 r = true := by
  by_cases h0 : r < 9
  · exact allFrom_at ko_28_0 (by omega) (by omega)
  by_cases h9 : r < 16
  · exact allFrom_at ko_28_9 (by omega) (by omega)
  by_cases h16 : r < 22
  · exact allFrom_at ko_28_16 (by omega) (by omega)
  by_cases h22 : r < 28
  · exact allFrom_at ko_28_22 (by omega) (by omega)
  exact allFrom_at ko_28_28 (by omega) (by omega)
theorem ko29 (r : Nat) (h : r ≤ 29) : koRun 29 r = true := by
  by_cases h0 : r < 9
  · exact allFrom_at ko_29_0 (by omega) (by omega)
  by_cases h9 : r < 16
  · exact allFrom_at ko_29_9 (by omega) (by omega)
  by_cases h16 : r < 22
  · exact allFrom_at ko_29_16 (by omega) (by omega)
  by_cases h22 : r < 27
  · exact allFrom_at ko_29_22 (by omega) (by omega)
  exact allFrom_at ko_29_27 (by omega) (by omega)
theorem ko30 (r : Nat) (h : r ≤ 30) : koRun 30 r = true := by
  by_cases h0 : r < 9
  · exact allFrom_at ko_30_0 (by omega) (by omega)
  by_cases h9 : r < 16
  · exact allFrom_at ko_30_9 (by omega) (by omega)
  by_cases h16 : r < 22
  · exact allFrom_at ko_30_16 (by omega) (by omega)
  by_cases h22 : r < 27
  · exact allFrom_at ko_30_22 (by omega) (by omega)
  by_cases h27 : r < 30
  · exact allFrom_at ko_30_27 (by omega) (by omega)
  exact allFrom_at ko_30_30 (by omega) (by omega)
theorem ko31 (r : Nat) (h : r ≤ 31) : koRun 31 r = true := by
  by_cases h0 : r < 9
  · exact allFrom_at ko_31_0 (by omega) (by omega)
  by_cases h9 : r < 16
  · exact allFrom_at ko_31_9 (by omega) (by omega)
  by_cases h16 : r < 22
  · exact allFrom_at ko_31_16 (by omega) (by omega)
  by_cases h22 : r < 27
  · exact allFrom_at ko_31_22 (by omega) (by omega)
  by_cases h27 : r < 31
  · exact allFrom_at ko_31_27 (by omega) (by omega)
  exact allFrom_at ko_31_31 (by omega) (by omega)
theorem ko32 (r : Nat) (h : r ≤ 32) : koRun 32 r = true := by
  by_cases h0 : r < 9
  · exact allFrom_at ko_32_0 (by omega) (by omega)
  by_cases h9 : r < 16
  · exact allFrom_at ko_32_9 (by omega) (by omega)
  by_cases h16 : r < 22
  · exact allFrom_at ko_32_16 (by omega) (by omega)
  by_cases h22 : r < 27
  · exact allFrom_at ko_32_22 (by omega) (by omega)
  by_cases h27 : r < 32
  · exact allFrom_at ko_32_27 (by omega) (by omega)
  exact allFrom_at ko_32_32 (by omega) (by omega)
theorem ko33 (r : Nat) (h : r ≤ 33) : koRun 33 r = true := by
  by_cases h0 : r < 8
  · exact allFrom_at ko_33_0 (by omega) (by omega)
  by_cases h8 : r < 15
  · exact allFrom_at ko_33_8 (by omega) (by omega)
  by_cases h15 : r < 21
  · exact allFrom_at ko_33_15 (by omega) (by omega)
  by_cases h21 : r < 26
  · exact allFrom_at ko_33_21 (by omega) (by omega)
  by_cases h26 : r < 31
  · exact allFrom_at ko_33_26 (by omega) (by omega)
  by_cases h31 : r < 33
  · exact allFrom_at ko_33_31 (by omega) (by omega)
  exact allFrom_at ko_33_33 (by omega) (by omega)
theorem ko34 (r : Nat) (h : r ≤ 34) : koRun 34 r = true := by
  by_cases h0 : r < 8
  · exact allFrom_at ko_34_0 (by omega) (by omega)
  by_cases h8 : r < 15
  · exact allFrom_at ko_34_8 (by omega) (by omega)
  by_cases h15 : r < 21
  · exact allFrom_at ko_34_15 (by omega) (by omega)
  by_cases h21 : r < 26
  · exact allFrom_at ko_34_21 (by omega) (by omega)
  by_cases h26 : r < 31
  · exact allFrom_at ko_34_26 (by omega) (by omega)
  by_cases h31 : r < 34
  · exact allFrom_at ko_34_31 (by omega) (by omega)
  exact allFrom_at ko_34_34 (by omega) (by omega)
theorem ko35 (r : Nat) (h : r ≤ 35) : koRun 35 r = true := by
  by_cases h0 : r < 8
  · exact allFrom_at ko_35_0 (by omega) (by omega)
  by_cases h8 : r < 15
  · exact allFrom_at ko_35_8 (by omega) (by omega)
  by_cases h15 : r < 21
  · exact allFrom_at ko_35_15 (by omega) (by omega)
  by_cases h21 : r < 26
  · exact allFrom_at ko_35_21 (by omega) (by omega)
  by_cases h26 : r < 31
  · exact allFrom_at ko_35_26 (by omega) (by omega)
  by_cases h31 : r < 35
  · exact allFrom_at ko_35_31 (by omega) (by omega)
  exact allFrom_at ko_35_35 (by omega) (by omega)
theorem ko36 (r : Nat) (h : r ≤ 36) : koRun 36 r = true := by
  by_cases h0 : r < 8
  · exact allFrom_at ko_36_0 (by omega) (by omega)
  by_cases h8 : r < 15
  · exact allFrom_at ko_36_8 (by omega) (by omega)
  by_cases h15 : r < 21
  · exact allFrom_at ko_36_15 (by omega) (by omega)
  by_cases h21 : r < 26
  · exact allFrom_at ko_36_21 (by omega) (by omega)
  by_cases h26 : r < 31
  · exact allFrom_at ko_36_26 (by omega) (by omega)
  by_cases h31 : r < 35
  · exact allFrom_at ko_36_31 (by omega) (by omega)
  exact allFrom_at ko_36_35 (by omega) (by omega)
theorem ko37 (r : Nat) (h : r ≤ 37) : koRun 37 r = true := by
  by_cases h0 : r < 8
  · exact allFrom_at ko_37_0 (by omega) (by omega)
  by_cases h8 : r < 15
  · exact allFrom_at ko_37_8 (by omega) (by omega)
  by_cases h15 : r < 21
  · exact allFrom_at ko_37_15 (by omega) (by omega)
  by_cases h21 : r < 26
  · exact allFrom_at ko_37_21 (by omega) (by omega)
  by_cases h26 : r < 31
  · exact allFrom_at ko_37_26 (by omega) (by omega)
  by_cases h31 : r < 35
  · exact allFrom_at ko_37_31 (by omega) (by omega)
  by_cases h35 : r < 37
  · exact allFrom_at ko_37_35 (by omega) (by omega)
  exact allFrom_at ko_37_37 (by omega) (by omega)
theorem ko38 (r : Nat) (h : r ≤ 38) : koRun 38 r = true := by
  by_cases h0 : r < 8
  · exact allFrom_at ko_38_0 (by omega) (by omega)
  by_cases h8 : r < 15
  · exact allFrom_at ko_38_8 (by omega) (by omega)
  by_cases h15 : r < 21
  · exact allFrom_at ko_38_15 (by omega) (by omega)
  by_cases h21 : r < 26
  · exact allFrom_at ko_38_21 (by omega) (by omega)
  by_cases h26 : r < 31
  · exact allFrom_at ko_38_26 (by omega) (by omega)
  by_cases h31 : r < 35
  · exact allFrom_at ko_38_31 (by omega) (by omega)
  by_cases h35 : r < 38
  · exact allFrom_at ko_38_35 (by omega) (by omega)
  exact allFrom_at ko_38_38 (by omega) (by omega)
theorem ko39 (r : Nat) (h : r ≤ 39) : koRun 39 r = true := by
  by_cases h0 : r < 8
  · exact allFrom_at ko_39_0 (by omega) (by omega)
  by_cases h8 : r < 15
  · exact allFrom_at ko_39_8 (by omega) (by omega)
  by_cases h15 : r < 21
  · exact allFrom_at ko_39_15 (by omega) (by omega)
  by_cases h21 : r < 26
  · exact allFrom_at ko_39_21 (by omega) (by omega)
  by_cases h26 : r < 31
  · exact allFrom_at ko_39_26 (by omega) (by omega)
  by_cases h31 : r < 35
  · exact allFrom_at ko_39_31 (by omega) (by omega)
  by_cases h35 : r < 39
  · exact allFrom_at ko_39_35 (by omega) (by omega)
  exact allFrom_at ko_39_39 (by omega) (by omega)
theorem ko40 (r : Nat) (h : r ≤ 40) : koRun 40 r = true := by
  by_cases h0 : r < 8
  · exact allFrom_at ko_40_0 (by omega) (by omega)
  by_cases h8 : r < 14
  · exact allFrom_at ko_40_8 (by omega) (by omega)
  by_cases h14 : r < 20
  · exact allFrom_at ko_40_14 (by omega) (by omega)
  by_cases h20 : r < 25
  · exact allFrom_at ko_40_20 (by omega) (by omega)
  by_cases h25 : r < 30
  · exact allFrom_at ko_40_25 (by omega) (by omega)
  by_cases h30 : r < 34
  · exact allFrom_at ko_40_30 (by omega) (by omega)
  by_cases h34 : r < 38
  · exact allFrom_at ko_40_34 (by omega) (by omega)
  by_cases h38 : r < 40
  · exact allFrom_at ko_40_38 (by omega) (by omega)
  exact allFrom_at ko_40_40 (by omega) (by omega)
theorem koAll (n r : Nat) (h1 : 1 ≤ n) (h2 : n ≤ 40) (hr : r ≤ n) : koRun n r = true := by
  have hn : n = 1 ∨ n = 2 ∨ n = 3 ∨ n = 4 ∨ n = 5 ∨ n = 6 ∨ n = 7 ∨ n = 8 ∨ n = 9 ∨ n = 10 ∨ n = 11 ∨ n = 12 ∨ n = 13 ∨ n = 14 ∨ n = 15 ∨ n = 16 ∨ n = 17 ∨ n = 18 ∨ n = 19 ∨ n = 20 ∨ n = 21 ∨ n = 22 ∨ n = 23 ∨ n = 24 ∨ n = 25 ∨ n = 26 ∨ n = 27 ∨ n = 28 ∨ n = 29 ∨ n = 30 ∨ n = 31 ∨ n = 32 ∨ n = 33 ∨ n = 34 ∨ n = 35 ∨ n = 36 ∨ n = 37 ∨ n = 38 ∨ n = 39 ∨ n = 40 := by omega
  rcases hn with rfl | rfl | rfl | rfl | rfl | rfl | rfl | rfl | rfl | rfl | rfl | rfl | rfl | rfl | rfl | rfl | rfl | rfl | rfl | rfl | rfl | rfl | rfl | rfl | rfl | rfl | rfl | rfl | rfl | rfl | rfl | rfl | rfl | rfl | rfl | rfl | rfl | rfl | rfl | rfl
  · exact ko1 r hr
  · exact ko2 r hr
  · exact ko3 r hr
  · exact ko4 r hr
  · exact ko5 r hr
  · exact ko6 r hr
  · exact ko7 r hr
  · exact ko8 r hr
  · exact ko9 r hr
  · exact ko10 r hr
  · exact ko11 r hr
  · exact ko12 r hr
  · exact ko13 r hr
  · exact ko14 r hr
  · exact ko15 r hr
  · exact ko16 r hr
  · exact ko17 r hr
  · exact ko18 r hr
  · exact ko19 r hr
  · exact ko20 r hr
  · exact ko21 r hr
  · exact ko22 r hr
  · exact ko23 r hr
  · exact ko24 r hr
  · exact ko25 r hr
  · exact ko26 r hr
  · exact ko27 r hr
  · exact ko28 r hr
  · exact ko29 r hr
  · exact ko30 r hr
  · exact ko31 r hr
  · exact ko32 r hr
  · exact ko33 r hr
  · exact ko34 r hr
  · exact ko35 r hr
  · exact ko36 r hr
  · exact ko37 r hr
  · exact ko38 r hr
  · exact ko39 r hr
  · exact ko40 r hr
theorem koneg (m : Nat) : okTrue ((goF Tryz.prog 21 (KA [7] 2 3) 10000000).call 3 [.int .i64 (Int.negSucc m), .complex .f32 20 0] (start0 21 2 3)) = true := by kernel_rfl
theorem kozero  : okTrue ((goF Tryz.prog 21 (KA [7] 2 3) 10000000).call 3 [.int .i64 (Int.ofNat 0), .complex .f32 20 0] (start0 21 2 3)) = true := by kernel_rfl
theorem kobig (m : Nat) : okTrue ((goF Tryz.prog 21 (KA [7] 2 3) 10000000).call 3 [.int .i64 (Int.ofNat (m + 41)), .complex .f32 20 0] (start0 21 2 3)) = true := by kernel_rfl
theorem knownAwk {V : Nat} : Known Tryz.prog 21 V (KA [7] 2 3) := known_KA (by decide) (by decide) fun g hg => by rw [List.mem_singleton.1 hg]; exact awake16k
theorem ko_of {V : Nat} {n : Int} (hr : okTrue ((goF Tryz.prog 21 (KA [7] 2 3) 10000000).call 3 [.int .i64 n, .complex .f32 20 0] (start0 21 2 3)) = true) (w : World) (hT : Lib.Utf8Tabs 2 3 w) : Calls Tryz.prog 3 #[.int .i64 n, .int .i64 (symI V)] w fun r w' => r = .returned (.bool true) ∧ Below w.heap.size w w' :=
  true_of_runF (V := V) (n := 10000000) (K := KA [7] 2 3) (args := [.int .i64 n, .complex .f32 20 0]) (args' := [.int .i64 n, .int .i64 (symI V)]) follows knownAwk (by decide) (by decide) (by decide) hr (.cons _ _ _ _ (.int _ _) (.cons _ _ _ _ (sym_rel 0) .nil)) w hT
theorem keepOne_any (n k : Int) (w : World) (hk : -9223372036854775808 ≤ k ∧ k ≤ 9223372036854775807) (hT : Lib.Utf8Tabs 2 3 w) : Calls Tryz.prog 3 #[.int .i64 n, .int .i64 k] w fun r w' => r = .returned (.bool true) ∧ Below w.heap.size w w' := by
  obtain ⟨V, rfl⟩ := symI_all k
  cases n with
  | negSucc m => exact ko_of (koneg m) w hT
  | ofNat n =>
    by_cases h0 : n = 0
    · subst h0; exact ko_of kozero w hT
    by_cases h1 : 41 ≤ n
    · obtain ⟨m, rfl⟩ : ∃ m, n = m + 41 := ⟨n - 41, by omega⟩
      exact ko_of (kobig m) w hT
    have hm0 : 0 ≤ symI V % ((n + 1 : Nat) : Int) := Int.emod_nonneg _ (by omega)
    have hm1 : symI V % ((n + 1 : Nat) : Int) < ((n + 1 : Nat) : Int) := Int.emod_lt_of_pos _ (by omega)
    obtain ⟨r, hr⟩ : ∃ r : Nat, symI V % ((n + 1 : Nat) : Int) = r := ⟨(symI V % ((n + 1 : Nat) : Int)).toNat, by omega⟩
    have hrn : r ≤ n := by omega
    exact true_of_runF (V := V) (n := 10000000) (K := koK n r) (args := [.int .i64 (.ofNat n), .complex .f32 20 0]) (args' := [.int .i64 (.ofNat n), .int .i64 (symI V)]) follows (known_or knownAwk (known_or (known_KRd fun w => roundU n (by omega) hk hr w) (known_or (known_KSum sumCk) (known_or (goodS_of follows known_no koF_ok) (known_KI koSel_good))))) (by decide) (by decide) (by decide) (koAll n r (by omega) (by omega) hrn) (.cons _ _ _ _ (.int _ _) (.cons _ _ _ _ (sym_rel 0) .nil)) w hT
end Go.Proofs.YtigdbaicoiepiaaGreatDoor.X
