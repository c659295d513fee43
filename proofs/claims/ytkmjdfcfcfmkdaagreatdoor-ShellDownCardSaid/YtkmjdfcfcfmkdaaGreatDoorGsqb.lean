/- ShellDown: what the records do, run once. -/
import Derived.Test.YtkmjdfcfcfmkdaaGreatDoorKmt
namespace Go.Proofs.YtkmjdfcfcfmkdaaGreatDoor.X
open Go.RowKit S
noncomputable def Gsqb_e0 : Nat × AO := (34, R (bz 3 0x1fa802) 5)
noncomputable def Gsqb_0 : Seg := ⟨214, [.agg ⟨[i 2, i 4008, i 0, ff, i 0, i 0, i 0, i 0, i 0, i 0, l0, s0, l0, i 0, i 0, i 0, i 0, l0]⟩], [], 20, .tuple ⟨[l 34 0 3 INF, i 0]⟩, [Gsqb_e0], 37⟩
theorem Gsqb_0_ok : segOk Tryz.prog 20 (Kno) 10000000 Gsqb_0 = true := by kernel_rfl
noncomputable def Gsqb_e1 : Nat × AO := (20, R (bz 2 0x0401) 5)
noncomputable def Gsqb_1 : Seg := ⟨211, [l 20 0 2 INF], [Gsqb_e1], 21, .tuple ⟨[.agg ⟨[i 1, i 4, i 0, ff, i 0, i 0, i 0, i 0, i 0, i 0, l0, s0, l0, i 0, i 0, i 0, i 0, l0]⟩, i 0]⟩, [], 44⟩
theorem Gsqb_1_ok : segOk Tryz.prog 20 (Kno) 10000000 Gsqb_1 = true := by kernel_rfl
noncomputable def Gsqb_e2 : Nat × AO := (20, R (bz 3 0x1fa802) 5)
noncomputable def Gsqb_2 : Seg := ⟨211, [l 20 0 3 INF], [Gsqb_e2], 21, .tuple ⟨[.agg ⟨[i 2, i 4008, i 0, ff, i 0, i 0, i 0, i 0, i 0, i 0, l0, s0, l0, i 0, i 0, i 0, i 0, l0]⟩, i 0]⟩, [], 46⟩
theorem Gsqb_2_ok : segOk Tryz.prog 20 (Kno) 10000000 Gsqb_2 = true := by kernel_rfl
noncomputable def Gsqb_e3 : Nat × AO := (20, r [i 1, i 1, i 4, i 4008, l 21 0 1 INF, p 22 0, m0, m0, m0, l0, l 23 0 1 INF] 251)
noncomputable def Gsqb_e4 : Nat × AO := (21, R [i 0, i 4294967295, i 1, i 1] 61)
noncomputable def Gsqb_e5 : Nat × AO := (22, r [m 24] 562)
noncomputable def Gsqb_e6 : Nat × AO := (24, .obj (.map ⟨[⟨sb 1 0x61, p 25 0, 0⟩]⟩ 1))
noncomputable def Gsqb_e7 : Nat × AO := (25, r [l 26 0 1 INF, m 27] 557)
noncomputable def Gsqb_e8 : Nat × AO := (26, R [sb 1 0x61, i 1, sb 1 0x78, i 5, i 0, i 1, i 0] 152)
noncomputable def Gsqb_e9 : Nat × AO := (27, .obj (.map ⟨[]⟩ 0))
noncomputable def Gsqb_e10 : Nat × AO := (23, R [sb 1 0x61, i 1, sb 1 0x78, i 5, i 0, i 1, i 0] 152)
noncomputable def Gsqb_e11 : Nat × AO := (20, r [i 1, i 1, i 5, i 4008, l 21 0 1 INF, p 22 0, m0, m0, m0, l0, l 23 0 1 INF] 251)
noncomputable def Gsqb_3 : Seg := ⟨212, [p 20 0, .agg ⟨[i 1, i 5, i 0, ff, i 0, i 0, i 0, i 0, i 0, i 0, l0, s0, l0, i 0, i 0, i 0, i 0, l0]⟩], [Gsqb_e3, Gsqb_e4, Gsqb_e5, Gsqb_e6, Gsqb_e7, Gsqb_e8, Gsqb_e9, Gsqb_e10], 28, i 0, [Gsqb_e11], 45⟩
theorem Gsqb_3_ok : segOk Tryz.prog 20 (Kno) 10000000 Gsqb_3 = true := by kernel_rfl
noncomputable def Gsqb_e12 : Nat × AO := (32, R (bz 2 0x0501) 5)
noncomputable def Gsqb_4 : Seg := ⟨214, [.agg ⟨[i 1, i 5, i 0, ff, i 0, i 0, i 0, i 0, i 0, i 0, l0, s0, l0, i 0, i 0, i 0, i 0, l0]⟩], [], 20, .tuple ⟨[l 32 0 2 INF, i 0]⟩, [Gsqb_e12], 35⟩
theorem Gsqb_4_ok : segOk Tryz.prog 20 (Kno) 10000000 Gsqb_4 = true := by kernel_rfl
noncomputable def Gsqb_e13 : Nat × AO := (20, r [i 1, i 1, i 5, i 5009, l 21 0 1 INF, p 22 0, m0, m0, m0, l0, l 23 0 1 INF] 251)
noncomputable def Gsqb_5 : Seg := ⟨212, [p 20 0, .agg ⟨[i 2, i 5009, i 0, ff, i 0, i 0, i 0, i 0, i 0, i 0, l0, s0, l0, i 0, i 0, i 0, i 0, l0]⟩], [Gsqb_e11, Gsqb_e4, Gsqb_e5, Gsqb_e6, Gsqb_e7, Gsqb_e8, Gsqb_e9, Gsqb_e10], 28, i 0, [Gsqb_e13], 47⟩
theorem Gsqb_5_ok : segOk Tryz.prog 20 (Kno) 10000000 Gsqb_5 = true := by kernel_rfl
noncomputable def Gsqb_e14 : Nat × AO := (34, R (bz 3 0x279102) 5)
noncomputable def Gsqb_6 : Seg := ⟨214, [.agg ⟨[i 2, i 5009, i 0, ff, i 0, i 0, i 0, i 0, i 0, i 0, l0, s0, l0, i 0, i 0, i 0, i 0, l0]⟩], [], 20, .tuple ⟨[l 34 0 3 INF, i 0]⟩, [Gsqb_e14], 37⟩
theorem Gsqb_6_ok : segOk Tryz.prog 20 (Kno) 10000000 Gsqb_6 = true := by kernel_rfl
noncomputable def Gsqb_e15 : Nat × AO := (20, R (bz 2 0x0501) 5)
noncomputable def Gsqb_7 : Seg := ⟨211, [l 20 0 2 INF], [Gsqb_e15], 21, .tuple ⟨[.agg ⟨[i 1, i 5, i 0, ff, i 0, i 0, i 0, i 0, i 0, i 0, l0, s0, l0, i 0, i 0, i 0, i 0, l0]⟩, i 0]⟩, [], 44⟩
theorem Gsqb_7_ok : segOk Tryz.prog 20 (Kno) 10000000 Gsqb_7 = true := by kernel_rfl
noncomputable def Gsqb_e16 : Nat × AO := (20, R (bz 3 0x279102) 5)
noncomputable def Gsqb_8 : Seg := ⟨211, [l 20 0 3 INF], [Gsqb_e16], 21, .tuple ⟨[.agg ⟨[i 2, i 5009, i 0, ff, i 0, i 0, i 0, i 0, i 0, i 0, l0, s0, l0, i 0, i 0, i 0, i 0, l0]⟩, i 0]⟩, [], 46⟩
theorem Gsqb_8_ok : segOk Tryz.prog 20 (Kno) 10000000 Gsqb_8 = true := by kernel_rfl
noncomputable def Gsqb_e17 : Nat × AO := (20, r [i 1, i 1, i 6, i 5009, l 21 0 1 INF, p 22 0, m0, m0, m0, l0, l 23 0 1 INF] 251)
noncomputable def Gsqb_9 : Seg := ⟨212, [p 20 0, .agg ⟨[i 1, i 6, i 0, ff, i 0, i 0, i 0, i 0, i 0, i 0, l0, s0, l0, i 0, i 0, i 0, i 0, l0]⟩], [Gsqb_e13, Gsqb_e4, Gsqb_e5, Gsqb_e6, Gsqb_e7, Gsqb_e8, Gsqb_e9, Gsqb_e10], 28, i 0, [Gsqb_e17], 45⟩
theorem Gsqb_9_ok : segOk Tryz.prog 20 (Kno) 10000000 Gsqb_9 = true := by kernel_rfl
noncomputable def Gsqb_e18 : Nat × AO := (32, R (bz 2 0x0601) 5)
noncomputable def Gsqb_10 : Seg := ⟨214, [.agg ⟨[i 1, i 6, i 0, ff, i 0, i 0, i 0, i 0, i 0, i 0, l0, s0, l0, i 0, i 0, i 0, i 0, l0]⟩], [], 20, .tuple ⟨[l 32 0 2 INF, i 0]⟩, [Gsqb_e18], 35⟩
theorem Gsqb_10_ok : segOk Tryz.prog 20 (Kno) 10000000 Gsqb_10 = true := by kernel_rfl
noncomputable def Gsqb_e19 : Nat × AO := (20, r [i 1, i 1, i 6, i 6010, l 21 0 1 INF, p 22 0, m0, m0, m0, l0, l 23 0 1 INF] 251)
noncomputable def Gsqb_11 : Seg := ⟨212, [p 20 0, .agg ⟨[i 2, i 6010, i 0, ff, i 0, i 0, i 0, i 0, i 0, i 0, l0, s0, l0, i 0, i 0, i 0, i 0, l0]⟩], [Gsqb_e17, Gsqb_e4, Gsqb_e5, Gsqb_e6, Gsqb_e7, Gsqb_e8, Gsqb_e9, Gsqb_e10], 28, i 0, [Gsqb_e19], 47⟩
theorem Gsqb_11_ok : segOk Tryz.prog 20 (Kno) 10000000 Gsqb_11 = true := by kernel_rfl
noncomputable def Gsqb_e20 : Nat × AO := (34, R (bz 3 0x2efa02) 5)
noncomputable def Gsqb_12 : Seg := ⟨214, [.agg ⟨[i 2, i 6010, i 0, ff, i 0, i 0, i 0, i 0, i 0, i 0, l0, s0, l0, i 0, i 0, i 0, i 0, l0]⟩], [], 20, .tuple ⟨[l 34 0 3 INF, i 0]⟩, [Gsqb_e20], 37⟩
theorem Gsqb_12_ok : segOk Tryz.prog 20 (Kno) 10000000 Gsqb_12 = true := by kernel_rfl
noncomputable def Gsqb_e21 : Nat × AO := (20, R (bz 2 0x0601) 5)
noncomputable def Gsqb_13 : Seg := ⟨211, [l 20 0 2 INF], [Gsqb_e21], 21, .tuple ⟨[.agg ⟨[i 1, i 6, i 0, ff, i 0, i 0, i 0, i 0, i 0, i 0, l0, s0, l0, i 0, i 0, i 0, i 0, l0]⟩, i 0]⟩, [], 44⟩
theorem Gsqb_13_ok : segOk Tryz.prog 20 (Kno) 10000000 Gsqb_13 = true := by kernel_rfl
noncomputable def Gsqb_e22 : Nat × AO := (20, R (bz 3 0x2efa02) 5)
noncomputable def Gsqb_14 : Seg := ⟨211, [l 20 0 3 INF], [Gsqb_e22], 21, .tuple ⟨[.agg ⟨[i 2, i 6010, i 0, ff, i 0, i 0, i 0, i 0, i 0, i 0, l0, s0, l0, i 0, i 0, i 0, i 0, l0]⟩, i 0]⟩, [], 46⟩
theorem Gsqb_14_ok : segOk Tryz.prog 20 (Kno) 10000000 Gsqb_14 = true := by kernel_rfl
noncomputable def Gsqb_e23 : Nat × AO := (20, r [i 1, i 1, i 7, i 6010, l 21 0 1 INF, p 22 0, m0, m0, m0, l0, l 23 0 1 INF] 251)
noncomputable def Gsqb_15 : Seg := ⟨212, [p 20 0, .agg ⟨[i 1, i 7, i 0, ff, i 0, i 0, i 0, i 0, i 0, i 0, l0, s0, l0, i 0, i 0, i 0, i 0, l0]⟩], [Gsqb_e19, Gsqb_e4, Gsqb_e5, Gsqb_e6, Gsqb_e7, Gsqb_e8, Gsqb_e9, Gsqb_e10], 28, i 0, [Gsqb_e23], 45⟩
theorem Gsqb_15_ok : segOk Tryz.prog 20 (Kno) 10000000 Gsqb_15 = true := by kernel_rfl
noncomputable def Gsqb_e24 : Nat × AO := (32, R (bz 2 0x0701) 5)
noncomputable def Gsqb_16 : Seg := ⟨214, [.agg ⟨[i 1, i 7, i 0, ff, i 0, i 0, i 0, i 0, i 0, i 0, l0, s0, l0, i 0, i 0, i 0, i 0, l0]⟩], [], 20, .tuple ⟨[l 32 0 2 INF, i 0]⟩, [Gsqb_e24], 35⟩
theorem Gsqb_16_ok : segOk Tryz.prog 20 (Kno) 10000000 Gsqb_16 = true := by kernel_rfl
noncomputable def Gsqb_e25 : Nat × AO := (20, r [i 1, i 1, i 7, i 7011, l 21 0 1 INF, p 22 0, m0, m0, m0, l0, l 23 0 1 INF] 251)
noncomputable def Gsqb_17 : Seg := ⟨212, [p 20 0, .agg ⟨[i 2, i 7011, i 0, ff, i 0, i 0, i 0, i 0, i 0, i 0, l0, s0, l0, i 0, i 0, i 0, i 0, l0]⟩], [Gsqb_e23, Gsqb_e4, Gsqb_e5, Gsqb_e6, Gsqb_e7, Gsqb_e8, Gsqb_e9, Gsqb_e10], 28, i 0, [Gsqb_e25], 47⟩
theorem Gsqb_17_ok : segOk Tryz.prog 20 (Kno) 10000000 Gsqb_17 = true := by kernel_rfl
noncomputable def Gsqb_e26 : Nat × AO := (34, R (bz 3 0x36e302) 5)
noncomputable def Gsqb_18 : Seg := ⟨214, [.agg ⟨[i 2, i 7011, i 0, ff, i 0, i 0, i 0, i 0, i 0, i 0, l0, s0, l0, i 0, i 0, i 0, i 0, l0]⟩], [], 20, .tuple ⟨[l 34 0 3 INF, i 0]⟩, [Gsqb_e26], 37⟩
theorem Gsqb_18_ok : segOk Tryz.prog 20 (Kno) 10000000 Gsqb_18 = true := by kernel_rfl
noncomputable def Gsqb_e27 : Nat × AO := (20, R (bz 2 0x0701) 5)
noncomputable def Gsqb_19 : Seg := ⟨211, [l 20 0 2 INF], [Gsqb_e27], 21, .tuple ⟨[.agg ⟨[i 1, i 7, i 0, ff, i 0, i 0, i 0, i 0, i 0, i 0, l0, s0, l0, i 0, i 0, i 0, i 0, l0]⟩, i 0]⟩, [], 44⟩
theorem Gsqb_19_ok : segOk Tryz.prog 20 (Kno) 10000000 Gsqb_19 = true := by kernel_rfl
noncomputable def Gsqb_e28 : Nat × AO := (20, R (bz 3 0x36e302) 5)
noncomputable def Gsqb_20 : Seg := ⟨211, [l 20 0 3 INF], [Gsqb_e28], 21, .tuple ⟨[.agg ⟨[i 2, i 7011, i 0, ff, i 0, i 0, i 0, i 0, i 0, i 0, l0, s0, l0, i 0, i 0, i 0, i 0, l0]⟩, i 0]⟩, [], 46⟩
theorem Gsqb_20_ok : segOk Tryz.prog 20 (Kno) 10000000 Gsqb_20 = true := by kernel_rfl
noncomputable def Gsqb_e29 : Nat × AO := (20, r [i 1, i 1, i 8, i 7011, l 21 0 1 INF, p 22 0, m0, m0, m0, l0, l 23 0 1 INF] 251)
noncomputable def Gsqb_21 : Seg := ⟨212, [p 20 0, .agg ⟨[i 1, i 8, i 0, ff, i 0, i 0, i 0, i 0, i 0, i 0, l0, s0, l0, i 0, i 0, i 0, i 0, l0]⟩], [Gsqb_e25, Gsqb_e4, Gsqb_e5, Gsqb_e6, Gsqb_e7, Gsqb_e8, Gsqb_e9, Gsqb_e10], 28, i 0, [Gsqb_e29], 45⟩
theorem Gsqb_21_ok : segOk Tryz.prog 20 (Kno) 10000000 Gsqb_21 = true := by kernel_rfl
noncomputable def Gsqb_e30 : Nat × AO := (32, R (bz 2 0x0801) 5)
noncomputable def Gsqb_22 : Seg := ⟨214, [.agg ⟨[i 1, i 8, i 0, ff, i 0, i 0, i 0, i 0, i 0, i 0, l0, s0, l0, i 0, i 0, i 0, i 0, l0]⟩], [], 20, .tuple ⟨[l 32 0 2 INF, i 0]⟩, [Gsqb_e30], 35⟩
theorem Gsqb_22_ok : segOk Tryz.prog 20 (Kno) 10000000 Gsqb_22 = true := by kernel_rfl
noncomputable def Gsqb_e31 : Nat × AO := (20, r [i 1, i 1, i 8, i 8012, l 21 0 1 INF, p 22 0, m0, m0, m0, l0, l 23 0 1 INF] 251)
noncomputable def Gsqb_23 : Seg := ⟨212, [p 20 0, .agg ⟨[i 2, i 8012, i 0, ff, i 0, i 0, i 0, i 0, i 0, i 0, l0, s0, l0, i 0, i 0, i 0, i 0, l0]⟩], [Gsqb_e29, Gsqb_e4, Gsqb_e5, Gsqb_e6, Gsqb_e7, Gsqb_e8, Gsqb_e9, Gsqb_e10], 28, i 0, [Gsqb_e31], 47⟩
theorem Gsqb_23_ok : segOk Tryz.prog 20 (Kno) 10000000 Gsqb_23 = true := by kernel_rfl
noncomputable def Gsqb_s : List Seg := [Gsqb_0, Gsqb_1, Gsqb_2, Gsqb_3, Gsqb_4, Gsqb_5, Gsqb_6, Gsqb_7, Gsqb_8, Gsqb_9, Gsqb_10, Gsqb_11, Gsqb_12, Gsqb_13, Gsqb_14, Gsqb_15, Gsqb_16, Gsqb_17, Gsqb_18, Gsqb_19, Gsqb_20, Gsqb_21, Gsqb_22, Gsqb_23]
theorem Gsqb_good {V : Nat} : ∀ g ∈ Gsqb_s, Good Tryz.prog 20 V g := good_cons (good_of follows (known_no) Gsqb_0_ok) (good_cons (good_of follows (known_no) Gsqb_1_ok) (good_cons (good_of follows (known_no) Gsqb_2_ok) (good_cons (good_of follows (known_no) Gsqb_3_ok) (good_cons (good_of follows (known_no) Gsqb_4_ok) (good_cons (good_of follows (known_no) Gsqb_5_ok) (good_cons (good_of follows (known_no) Gsqb_6_ok) (good_cons (good_of follows (known_no) Gsqb_7_ok) (good_cons (good_of follows (known_no) Gsqb_8_ok) (good_cons (good_of follows (known_no) Gsqb_9_ok) (good_cons (good_of follows (known_no) Gsqb_10_ok) (good_cons (good_of follows (known_no) Gsqb_11_ok) (good_cons (good_of follows (known_no) Gsqb_12_ok) (good_cons (good_of follows (known_no) Gsqb_13_ok) (good_cons (good_of follows (known_no) Gsqb_14_ok) (good_cons (good_of follows (known_no) Gsqb_15_ok) (good_cons (good_of follows (known_no) Gsqb_16_ok) (good_cons (good_of follows (known_no) Gsqb_17_ok) (good_cons (good_of follows (known_no) Gsqb_18_ok) (good_cons (good_of follows (known_no) Gsqb_19_ok) (good_cons (good_of follows (known_no) Gsqb_20_ok) (good_cons (good_of follows (known_no) Gsqb_21_ok) (good_cons (good_of follows (known_no) Gsqb_22_ok) (good_cons (good_of follows (known_no) Gsqb_23_ok) (good_nil))))))))))))))))))))))))
end Go.Proofs.YtkmjdfcfcfmkdaaGreatDoor.X
