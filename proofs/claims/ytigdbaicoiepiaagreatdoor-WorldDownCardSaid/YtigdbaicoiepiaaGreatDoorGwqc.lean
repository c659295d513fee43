/- WorldDown: what the records do, run once. -/
import Derived.Test.YtigdbaicoiepiaaGreatDoorKmt
namespace Go.Proofs.YtigdbaicoiepiaaGreatDoor.X
open Go.RowKit S
noncomputable def Gwqc_e0 : Nat × AO := (20, R (bz 12 0x010205780101046101010003) 5)
noncomputable def Gwqc_e1 : Nat × AO := (33, R [sb 1 0x61, i 2, l 31 0 1 INF] 63)
noncomputable def Gwqc_e2 : Nat × AO := (31, R [sb 1 0x78] 9)
noncomputable def Gwqc_0 : Seg := ⟨90, [l 20 0 12 INF], [Gwqc_e0], 21, .tuple ⟨[.agg ⟨[i 3, i 0, i 0, ff, i 5, i 2, i 1, i 0, i 0, i 0, l0, s0, l 33 0 1 INF, i 0, i 0, i 0, i 0, l0]⟩, i 0]⟩, [Gwqc_e1, Gwqc_e2], 111⟩
theorem Gwqc_0_ok : segOk Tryz.prog 20 (Kno) 10000000 Gwqc_0 = true := by kernel_rfl
noncomputable def Gwqc_e3 : Nat × AO := (20, R (bz 12 0x010305780101066101010003) 5)
noncomputable def Gwqc_e4 : Nat × AO := (33, R [sb 1 0x61, i 3, l 31 0 1 INF] 63)
noncomputable def Gwqc_1 : Seg := ⟨90, [l 20 0 12 INF], [Gwqc_e3], 21, .tuple ⟨[.agg ⟨[i 3, i 0, i 0, ff, i 5, i 3, i 1, i 0, i 0, i 0, l0, s0, l 33 0 1 INF, i 0, i 0, i 0, i 0, l0]⟩, i 0]⟩, [Gwqc_e4, Gwqc_e2], 111⟩
theorem Gwqc_1_ok : segOk Tryz.prog 20 (Kno) 10000000 Gwqc_1 = true := by kernel_rfl
noncomputable def Gwqc_e5 : Nat × AO := (20, R (bz 12 0x010405780101086101010003) 5)
noncomputable def Gwqc_e6 : Nat × AO := (33, R [sb 1 0x61, i 4, l 31 0 1 INF] 63)
noncomputable def Gwqc_2 : Seg := ⟨90, [l 20 0 12 INF], [Gwqc_e5], 21, .tuple ⟨[.agg ⟨[i 3, i 0, i 0, ff, i 5, i 4, i 1, i 0, i 0, i 0, l0, s0, l 33 0 1 INF, i 0, i 0, i 0, i 0, l0]⟩, i 0]⟩, [Gwqc_e6, Gwqc_e2], 111⟩
theorem Gwqc_2_ok : segOk Tryz.prog 20 (Kno) 10000000 Gwqc_2 = true := by kernel_rfl
noncomputable def Gwqc_e7 : Nat × AO := (20, R (bz 12 0x0105057801010a6101010003) 5)
noncomputable def Gwqc_e8 : Nat × AO := (33, R [sb 1 0x61, i 5, l 31 0 1 INF] 63)
noncomputable def Gwqc_3 : Seg := ⟨90, [l 20 0 12 INF], [Gwqc_e7], 21, .tuple ⟨[.agg ⟨[i 3, i 0, i 0, ff, i 5, i 5, i 1, i 0, i 0, i 0, l0, s0, l 33 0 1 INF, i 0, i 0, i 0, i 0, l0]⟩, i 0]⟩, [Gwqc_e8, Gwqc_e2], 111⟩
theorem Gwqc_3_ok : segOk Tryz.prog 20 (Kno) 10000000 Gwqc_3 = true := by kernel_rfl
noncomputable def Gwqc_e9 : Nat × AO := (20, R (bz 12 0x0106057801010c6101010003) 5)
noncomputable def Gwqc_e10 : Nat × AO := (33, R [sb 1 0x61, i 6, l 31 0 1 INF] 63)
noncomputable def Gwqc_4 : Seg := ⟨90, [l 20 0 12 INF], [Gwqc_e9], 21, .tuple ⟨[.agg ⟨[i 3, i 0, i 0, ff, i 5, i 6, i 1, i 0, i 0, i 0, l0, s0, l 33 0 1 INF, i 0, i 0, i 0, i 0, l0]⟩, i 0]⟩, [Gwqc_e10, Gwqc_e2], 111⟩
theorem Gwqc_4_ok : segOk Tryz.prog 20 (Kno) 10000000 Gwqc_4 = true := by kernel_rfl
noncomputable def Gwqc_e11 : Nat × AO := (20, R (bz 12 0x0107057801010e6101010003) 5)
noncomputable def Gwqc_e12 : Nat × AO := (33, R [sb 1 0x61, i 7, l 31 0 1 INF] 63)
noncomputable def Gwqc_5 : Seg := ⟨90, [l 20 0 12 INF], [Gwqc_e11], 21, .tuple ⟨[.agg ⟨[i 3, i 0, i 0, ff, i 5, i 7, i 1, i 0, i 0, i 0, l0, s0, l 33 0 1 INF, i 0, i 0, i 0, i 0, l0]⟩, i 0]⟩, [Gwqc_e12, Gwqc_e2], 111⟩
theorem Gwqc_5_ok : segOk Tryz.prog 20 (Kno) 10000000 Gwqc_5 = true := by kernel_rfl
noncomputable def Gwqc_e13 : Nat × AO := (20, R (bz 12 0x010805780101106101010003) 5)
noncomputable def Gwqc_e14 : Nat × AO := (33, R [sb 1 0x61, i 8, l 31 0 1 INF] 63)
noncomputable def Gwqc_6 : Seg := ⟨90, [l 20 0 12 INF], [Gwqc_e13], 21, .tuple ⟨[.agg ⟨[i 3, i 0, i 0, ff, i 5, i 8, i 1, i 0, i 0, i 0, l0, s0, l 33 0 1 INF, i 0, i 0, i 0, i 0, l0]⟩, i 0]⟩, [Gwqc_e14, Gwqc_e2], 111⟩
theorem Gwqc_6_ok : segOk Tryz.prog 20 (Kno) 10000000 Gwqc_6 = true := by kernel_rfl
noncomputable def Gwqc_e15 : Nat × AO := (20, R (bz 12 0x010905780101126101010003) 5)
noncomputable def Gwqc_e16 : Nat × AO := (33, R [sb 1 0x61, i 9, l 31 0 1 INF] 63)
noncomputable def Gwqc_7 : Seg := ⟨90, [l 20 0 12 INF], [Gwqc_e15], 21, .tuple ⟨[.agg ⟨[i 3, i 0, i 0, ff, i 5, i 9, i 1, i 0, i 0, i 0, l0, s0, l 33 0 1 INF, i 0, i 0, i 0, i 0, l0]⟩, i 0]⟩, [Gwqc_e16, Gwqc_e2], 111⟩
theorem Gwqc_7_ok : segOk Tryz.prog 20 (Kno) 10000000 Gwqc_7 = true := by kernel_rfl
noncomputable def Gwqc_e17 : Nat × AO := (20, R (bz 12 0x010a05780101146101010003) 5)
noncomputable def Gwqc_e18 : Nat × AO := (33, R [sb 1 0x61, i 10, l 31 0 1 INF] 63)
noncomputable def Gwqc_8 : Seg := ⟨90, [l 20 0 12 INF], [Gwqc_e17], 21, .tuple ⟨[.agg ⟨[i 3, i 0, i 0, ff, i 5, i 10, i 1, i 0, i 0, i 0, l0, s0, l 33 0 1 INF, i 0, i 0, i 0, i 0, l0]⟩, i 0]⟩, [Gwqc_e18, Gwqc_e2], 111⟩
theorem Gwqc_8_ok : segOk Tryz.prog 20 (Kno) 10000000 Gwqc_8 = true := by kernel_rfl
noncomputable def Gwqc_e19 : Nat × AO := (20, R (bz 12 0x010b05780101166101010003) 5)
noncomputable def Gwqc_e20 : Nat × AO := (33, R [sb 1 0x61, i 11, l 31 0 1 INF] 63)
noncomputable def Gwqc_9 : Seg := ⟨90, [l 20 0 12 INF], [Gwqc_e19], 21, .tuple ⟨[.agg ⟨[i 3, i 0, i 0, ff, i 5, i 11, i 1, i 0, i 0, i 0, l0, s0, l 33 0 1 INF, i 0, i 0, i 0, i 0, l0]⟩, i 0]⟩, [Gwqc_e20, Gwqc_e2], 111⟩
theorem Gwqc_9_ok : segOk Tryz.prog 20 (Kno) 10000000 Gwqc_9 = true := by kernel_rfl
noncomputable def Gwqc_e21 : Nat × AO := (20, R (bz 12 0x010c05780101186101010003) 5)
noncomputable def Gwqc_e22 : Nat × AO := (33, R [sb 1 0x61, i 12, l 31 0 1 INF] 63)
noncomputable def Gwqc_10 : Seg := ⟨90, [l 20 0 12 INF], [Gwqc_e21], 21, .tuple ⟨[.agg ⟨[i 3, i 0, i 0, ff, i 5, i 12, i 1, i 0, i 0, i 0, l0, s0, l 33 0 1 INF, i 0, i 0, i 0, i 0, l0]⟩, i 0]⟩, [Gwqc_e22, Gwqc_e2], 111⟩
theorem Gwqc_10_ok : segOk Tryz.prog 20 (Kno) 10000000 Gwqc_10 = true := by kernel_rfl
noncomputable def Gwqc_e23 : Nat × AO := (20, R (bz 12 0x010d057801011a6101010003) 5)
noncomputable def Gwqc_e24 : Nat × AO := (33, R [sb 1 0x61, i 13, l 31 0 1 INF] 63)
noncomputable def Gwqc_11 : Seg := ⟨90, [l 20 0 12 INF], [Gwqc_e23], 21, .tuple ⟨[.agg ⟨[i 3, i 0, i 0, ff, i 5, i 13, i 1, i 0, i 0, i 0, l0, s0, l 33 0 1 INF, i 0, i 0, i 0, i 0, l0]⟩, i 0]⟩, [Gwqc_e24, Gwqc_e2], 111⟩
theorem Gwqc_11_ok : segOk Tryz.prog 20 (Kno) 10000000 Gwqc_11 = true := by kernel_rfl
noncomputable def Gwqc_e25 : Nat × AO := (20, R (bz 12 0x010e057801011c6101010003) 5)
noncomputable def Gwqc_e26 : Nat × AO := (33, R [sb 1 0x61, i 14, l 31 0 1 INF] 63)
noncomputable def Gwqc_12 : Seg := ⟨90, [l 20 0 12 INF], [Gwqc_e25], 21, .tuple ⟨[.agg ⟨[i 3, i 0, i 0, ff, i 5, i 14, i 1, i 0, i 0, i 0, l0, s0, l 33 0 1 INF, i 0, i 0, i 0, i 0, l0]⟩, i 0]⟩, [Gwqc_e26, Gwqc_e2], 111⟩
theorem Gwqc_12_ok : segOk Tryz.prog 20 (Kno) 10000000 Gwqc_12 = true := by kernel_rfl
noncomputable def Gwqc_e27 : Nat × AO := (20, R (bz 12 0x010f057801011e6101010003) 5)
noncomputable def Gwqc_e28 : Nat × AO := (33, R [sb 1 0x61, i 15, l 31 0 1 INF] 63)
noncomputable def Gwqc_13 : Seg := ⟨90, [l 20 0 12 INF], [Gwqc_e27], 21, .tuple ⟨[.agg ⟨[i 3, i 0, i 0, ff, i 5, i 15, i 1, i 0, i 0, i 0, l0, s0, l 33 0 1 INF, i 0, i 0, i 0, i 0, l0]⟩, i 0]⟩, [Gwqc_e28, Gwqc_e2], 111⟩
theorem Gwqc_13_ok : segOk Tryz.prog 20 (Kno) 10000000 Gwqc_13 = true := by kernel_rfl
noncomputable def Gwqc_e29 : Nat × AO := (20, R (bz 12 0x011005780101206101010003) 5)
noncomputable def Gwqc_e30 : Nat × AO := (33, R [sb 1 0x61, i 16, l 31 0 1 INF] 63)
noncomputable def Gwqc_14 : Seg := ⟨90, [l 20 0 12 INF], [Gwqc_e29], 21, .tuple ⟨[.agg ⟨[i 3, i 0, i 0, ff, i 5, i 16, i 1, i 0, i 0, i 0, l0, s0, l 33 0 1 INF, i 0, i 0, i 0, i 0, l0]⟩, i 0]⟩, [Gwqc_e30, Gwqc_e2], 111⟩
theorem Gwqc_14_ok : segOk Tryz.prog 20 (Kno) 10000000 Gwqc_14 = true := by kernel_rfl
noncomputable def Gwqc_e31 : Nat × AO := (20, R (bz 12 0x011105780101226101010003) 5)
noncomputable def Gwqc_e32 : Nat × AO := (33, R [sb 1 0x61, i 17, l 31 0 1 INF] 63)
noncomputable def Gwqc_15 : Seg := ⟨90, [l 20 0 12 INF], [Gwqc_e31], 21, .tuple ⟨[.agg ⟨[i 3, i 0, i 0, ff, i 5, i 17, i 1, i 0, i 0, i 0, l0, s0, l 33 0 1 INF, i 0, i 0, i 0, i 0, l0]⟩, i 0]⟩, [Gwqc_e32, Gwqc_e2], 111⟩
theorem Gwqc_15_ok : segOk Tryz.prog 20 (Kno) 10000000 Gwqc_15 = true := by kernel_rfl
noncomputable def Gwqc_e33 : Nat × AO := (20, R (bz 12 0x011205780101246101010003) 5)
noncomputable def Gwqc_e34 : Nat × AO := (33, R [sb 1 0x61, i 18, l 31 0 1 INF] 63)
noncomputable def Gwqc_16 : Seg := ⟨90, [l 20 0 12 INF], [Gwqc_e33], 21, .tuple ⟨[.agg ⟨[i 3, i 0, i 0, ff, i 5, i 18, i 1, i 0, i 0, i 0, l0, s0, l 33 0 1 INF, i 0, i 0, i 0, i 0, l0]⟩, i 0]⟩, [Gwqc_e34, Gwqc_e2], 111⟩
theorem Gwqc_16_ok : segOk Tryz.prog 20 (Kno) 10000000 Gwqc_16 = true := by kernel_rfl
noncomputable def Gwqc_e35 : Nat × AO := (20, R (bz 12 0x011305780101266101010003) 5)
noncomputable def Gwqc_e36 : Nat × AO := (33, R [sb 1 0x61, i 19, l 31 0 1 INF] 63)
noncomputable def Gwqc_17 : Seg := ⟨90, [l 20 0 12 INF], [Gwqc_e35], 21, .tuple ⟨[.agg ⟨[i 3, i 0, i 0, ff, i 5, i 19, i 1, i 0, i 0, i 0, l0, s0, l 33 0 1 INF, i 0, i 0, i 0, i 0, l0]⟩, i 0]⟩, [Gwqc_e36, Gwqc_e2], 111⟩
theorem Gwqc_17_ok : segOk Tryz.prog 20 (Kno) 10000000 Gwqc_17 = true := by kernel_rfl
noncomputable def Gwqc_e37 : Nat × AO := (20, r [i 1, i 1, i 1, i 1005, l 21 0 1 INF, p 22 0, m0, m0, m0, l0, l 23 0 20 INF] 118)
noncomputable def Gwqc_e38 : Nat × AO := (21, R [i 0, i 4294967295, i 1, i 1] 39)
noncomputable def Gwqc_e39 : Nat × AO := (22, r [m 24] 591)
noncomputable def Gwqc_e40 : Nat × AO := (24, .obj (.map ⟨[⟨sb 1 0x61, p 25 0, 0⟩]⟩ 1))
noncomputable def Gwqc_e41 : Nat × AO := (25, r [l 26 0 20 INF, m 27] 367)
noncomputable def Gwqc_e42 : Nat × AO := (26, R [sb 1 0x61, i 1, sb 1 0x78, i 5, i 0, i 1, i 0, sb 1 0x61, i 2, sb 1 0x78, i 5, i 1, i 1, i 0, sb 1 0x61, i 3, sb 1 0x78, i 5, i 2, i 1, i 0, sb 1 0x61, i 4, sb 1 0x78, i 5, i 3, i 1, i 0, sb 1 0x61, i 5, sb 1 0x78, i 5, i 4, i 1, i 0, sb 1 0x61, i 6, sb 1 0x78, i 5, i 5, i 1, i 0, sb 1 0x61, i 7, sb 1 0x78, i 5, i 6, i 1, i 0, sb 1 0x61, i 8, sb 1 0x78, i 5, i 7, i 1, i 0, sb 1 0x61, i 9, sb 1 0x78, i 5, i 8, i 1, i 0, sb 1 0x61, i 10, sb 1 0x78, i 5, i 9, i 1, i 0, sb 1 0x61, i 11, sb 1 0x78, i 5, i 10, i 1, i 0, sb 1 0x61, i 12, sb 1 0x78, i 5, i 11, i 1, i 0, sb 1 0x61, i 13, sb 1 0x78, i 5, i 12, i 1, i 0, sb 1 0x61, i 14, sb 1 0x78, i 5, i 13, i 1, i 0, sb 1 0x61, i 15, sb 1 0x78, i 5, i 14, i 1, i 0, sb 1 0x61, i 16, sb 1 0x78, i 5, i 15, i 1, i 0, sb 1 0x61, i 17, sb 1 0x78, i 5, i 16, i 1, i 0, sb 1 0x61, i 18, sb 1 0x78, i 5, i 17, i 1, i 0, sb 1 0x61, i 19, sb 1 0x78, i 5, i 18, i 1, i 0, sb 1 0x61, i 20, sb 1 0x78, i 5, i 19, i 1, i 0] 161)
noncomputable def Gwqc_e43 : Nat × AO := (27, .obj (.map ⟨[]⟩ 0))
noncomputable def Gwqc_e44 : Nat × AO := (23, R [sb 1 0x61, i 1, sb 1 0x78, i 5, i 0, i 1, i 0, sb 1 0x61, i 2, sb 1 0x78, i 5, i 1, i 1, i 0, sb 1 0x61, i 3, sb 1 0x78, i 5, i 2, i 1, i 0, sb 1 0x61, i 4, sb 1 0x78, i 5, i 3, i 1, i 0, sb 1 0x61, i 5, sb 1 0x78, i 5, i 4, i 1, i 0, sb 1 0x61, i 6, sb 1 0x78, i 5, i 5, i 1, i 0, sb 1 0x61, i 7, sb 1 0x78, i 5, i 6, i 1, i 0, sb 1 0x61, i 8, sb 1 0x78, i 5, i 7, i 1, i 0, sb 1 0x61, i 9, sb 1 0x78, i 5, i 8, i 1, i 0, sb 1 0x61, i 10, sb 1 0x78, i 5, i 9, i 1, i 0, sb 1 0x61, i 11, sb 1 0x78, i 5, i 10, i 1, i 0, sb 1 0x61, i 12, sb 1 0x78, i 5, i 11, i 1, i 0, sb 1 0x61, i 13, sb 1 0x78, i 5, i 12, i 1, i 0, sb 1 0x61, i 14, sb 1 0x78, i 5, i 13, i 1, i 0, sb 1 0x61, i 15, sb 1 0x78, i 5, i 14, i 1, i 0, sb 1 0x61, i 16, sb 1 0x78, i 5, i 15, i 1, i 0, sb 1 0x61, i 17, sb 1 0x78, i 5, i 16, i 1, i 0, sb 1 0x61, i 18, sb 1 0x78, i 5, i 17, i 1, i 0, sb 1 0x61, i 19, sb 1 0x78, i 5, i 18, i 1, i 0, sb 1 0x61, i 20, sb 1 0x78, i 5, i 19, i 1, i 0] 161)
noncomputable def Gwqc_e45 : Nat × AO := (20, r [i 1, i 1, i 2, i 1005, l 21 0 1 INF, p 22 0, m0, m0, m0, l0, l 23 0 20 INF] 118)
noncomputable def Gwqc_18 : Seg := ⟨43, [p 20 0, .agg ⟨[i 1, i 2, i 0, ff, i 0, i 0, i 0, i 0, i 0, i 0, l0, s0, l0, i 0, i 0, i 0, i 0, l0]⟩], [Gwqc_e37, Gwqc_e38, Gwqc_e39, Gwqc_e40, Gwqc_e41, Gwqc_e42, Gwqc_e43, Gwqc_e44], 28, i 0, [Gwqc_e45], 45⟩
theorem Gwqc_18_ok : segOk Tryz.prog 20 (Kno) 10000000 Gwqc_18 = true := by kernel_rfl
noncomputable def Gwqc_e46 : Nat × AO := (32, R (bz 2 0x0201) 5)
noncomputable def Gwqc_19 : Seg := ⟨44, [.agg ⟨[i 1, i 2, i 0, ff, i 0, i 0, i 0, i 0, i 0, i 0, l0, s0, l0, i 0, i 0, i 0, i 0, l0]⟩], [], 20, .tuple ⟨[l 32 0 2 INF, i 0]⟩, [Gwqc_e46], 35⟩
theorem Gwqc_19_ok : segOk Tryz.prog 20 (Kno) 10000000 Gwqc_19 = true := by kernel_rfl
noncomputable def Gwqc_s : List Seg := [Gwqc_0, Gwqc_1, Gwqc_2, Gwqc_3, Gwqc_4, Gwqc_5, Gwqc_6, Gwqc_7, Gwqc_8, Gwqc_9, Gwqc_10, Gwqc_11, Gwqc_12, Gwqc_13, Gwqc_14, Gwqc_15, Gwqc_16, Gwqc_17, Gwqc_18, Gwqc_19]
theorem Gwqc_good {V : Nat} : ∀ g ∈ Gwqc_s, Good Tryz.prog 20 V g := good_cons (good_of follows (known_no) Gwqc_0_ok) (good_cons (good_of follows (known_no) Gwqc_1_ok) (good_cons (good_of follows (known_no) Gwqc_2_ok) (good_cons (good_of follows (known_no) Gwqc_3_ok) (good_cons (good_of follows (known_no) Gwqc_4_ok) (good_cons (good_of follows (known_no) Gwqc_5_ok) (good_cons (good_of follows (known_no) Gwqc_6_ok) (good_cons (good_of follows (known_no) Gwqc_7_ok) (good_cons (good_of follows (known_no) Gwqc_8_ok) (good_cons (good_of follows (known_no) Gwqc_9_ok) (good_cons (good_of follows (known_no) Gwqc_10_ok) (good_cons (good_of follows (known_no) Gwqc_11_ok) (good_cons (good_of follows (known_no) Gwqc_12_ok) (good_cons (good_of follows (known_no) Gwqc_13_ok) (good_cons (good_of follows (known_no) Gwqc_14_ok) (good_cons (good_of follows (known_no) Gwqc_15_ok) (good_cons (good_of follows (known_no) Gwqc_16_ok) (good_cons (good_of follows (known_no) Gwqc_17_ok) (good_cons (good_of follows (known_no) Gwqc_18_ok) (good_cons (good_of follows (known_no) Gwqc_19_ok) (good_nil))))))))))))))))))))
end Go.Proofs.YtigdbaicoiepiaaGreatDoor.X
