/- WorldDown: what the records do, run once. -/
import Derived.Test.YtigdbaicoiepiaaGreatDoorKmt
namespace Go.Proofs.YtigdbaicoiepiaaGreatDoor.X
open Go.RowKit S
noncomputable def Gwqa_e0 : Nat × AO := (20, r [i 1, i 1, i 0, i 0, l 21 0 1 INF, p 22 0, m0, m0, m0, l0, l0] 118)
noncomputable def Gwqa_e1 : Nat × AO := (21, R [i 0, i 4294967295, i 1, i 1] 39)
noncomputable def Gwqa_e2 : Nat × AO := (22, r [m0] 591)
noncomputable def Gwqa_e3 : Nat × AO := (20, r [i 1, i 1, i 1, i 0, l 21 0 1 INF, p 22 0, m0, m0, m0, l0, l0] 118)
noncomputable def Gwqa_0 : Seg := ⟨43, [p 20 0, .agg ⟨[i 1, i 1, i 0, ff, i 0, i 0, i 0, i 0, i 0, i 0, l0, s0, l0, i 0, i 0, i 0, i 0, l0]⟩], [Gwqa_e0, Gwqa_e1, Gwqa_e2], 23, i 0, [Gwqa_e3], 40⟩
theorem Gwqa_0_ok : segOk Tryz.prog 20 (Kno) 10000000 Gwqa_0 = true := by kernel_rfl
noncomputable def Gwqa_e4 : Nat × AO := (32, R (bz 2 0x0101) 5)
noncomputable def Gwqa_1 : Seg := ⟨44, [.agg ⟨[i 1, i 1, i 0, ff, i 0, i 0, i 0, i 0, i 0, i 0, l0, s0, l0, i 0, i 0, i 0, i 0, l0]⟩], [], 20, .tuple ⟨[l 32 0 2 INF, i 0]⟩, [Gwqa_e4], 35⟩
theorem Gwqa_1_ok : segOk Tryz.prog 20 (Kno) 10000000 Gwqa_1 = true := by kernel_rfl
noncomputable def Gwqa_e5 : Nat × AO := (20, r [i 1, i 1, i 1, i 1005, l 21 0 1 INF, p 22 0, m0, m0, m0, l0, l0] 118)
noncomputable def Gwqa_2 : Seg := ⟨43, [p 20 0, .agg ⟨[i 2, i 1005, i 0, ff, i 0, i 0, i 0, i 0, i 0, i 0, l0, s0, l0, i 0, i 0, i 0, i 0, l0]⟩], [Gwqa_e3, Gwqa_e1, Gwqa_e2], 23, i 0, [Gwqa_e5], 42⟩
theorem Gwqa_2_ok : segOk Tryz.prog 20 (Kno) 10000000 Gwqa_2 = true := by kernel_rfl
noncomputable def Gwqa_e6 : Nat × AO := (34, R (bz 3 0x07ed02) 5)
noncomputable def Gwqa_3 : Seg := ⟨44, [.agg ⟨[i 2, i 1005, i 0, ff, i 0, i 0, i 0, i 0, i 0, i 0, l0, s0, l0, i 0, i 0, i 0, i 0, l0]⟩], [], 20, .tuple ⟨[l 34 0 3 INF, i 0]⟩, [Gwqa_e6], 37⟩
theorem Gwqa_3_ok : segOk Tryz.prog 20 (Kno) 10000000 Gwqa_3 = true := by kernel_rfl
noncomputable def Gwqa_e7 : Nat × AO := (20, r [i 1, i 1, i 1, i 1005, l 22 0 1 INF, p 23 0, m0, m0, m0, l0, l0] 118)
noncomputable def Gwqa_e8 : Nat × AO := (22, R [i 0, i 4294967295, i 1, i 1] 39)
noncomputable def Gwqa_e9 : Nat × AO := (23, r [m0] 591)
noncomputable def Gwqa_e10 : Nat × AO := (21, R [sb 1 0x61, i 0, l 24 0 1 INF] 63)
noncomputable def Gwqa_e11 : Nat × AO := (24, R [sb 1 0x78] 9)
noncomputable def Gwqa_e12 : Nat × AO := (20, r [i 1, i 1, i 1, i 1005, l 22 0 1 INF, p 119 0, m0, m0, m0, l0, l 135 0 1 INF] 118)
noncomputable def Gwqa_e13 : Nat × AO := (119, r [m 129] 591)
noncomputable def Gwqa_e14 : Nat × AO := (129, .obj (.map ⟨[⟨sb 1 0x61, p 174 0, 0⟩]⟩ 1))
noncomputable def Gwqa_e15 : Nat × AO := (174, r [l 175 0 1 INF, m 173] 367)
noncomputable def Gwqa_e16 : Nat × AO := (175, R [sb 1 0x61, i 1, sb 1 0x78, i 5, i 0, i 1, i 0] 161)
noncomputable def Gwqa_e17 : Nat × AO := (173, .obj (.map ⟨[]⟩ 0))
noncomputable def Gwqa_e18 : Nat × AO := (135, R [sb 1 0x61, i 1, sb 1 0x78, i 5, i 0, i 1, i 0] 161)
noncomputable def Gwqa_4 : Seg := ⟨43, [p 20 0, .agg ⟨[i 3, i 0, i 0, ff, i 5, i 0, i 1, i 0, i 0, i 0, l0, s0, l 21 0 1 INF, i 0, i 0, i 0, i 0, l0]⟩], [Gwqa_e7, Gwqa_e8, Gwqa_e9, Gwqa_e10, Gwqa_e11], 25, i 0, [Gwqa_e12, Gwqa_e13, Gwqa_e14, Gwqa_e15, Gwqa_e16, Gwqa_e17, Gwqa_e18], 177⟩
theorem Gwqa_4_ok : segOk Tryz.prog 20 (Kno) 10000000 Gwqa_4 = true := by kernel_rfl
noncomputable def Gwqa_e19 : Nat × AO := (20, R [sb 1 0x61, i 0, l 21 0 1 INF] 63)
noncomputable def Gwqa_e20 : Nat × AO := (21, R [sb 1 0x78] 9)
noncomputable def Gwqa_e21 : Nat × AO := (80, R (bz 12 0x010005780101006101010003) 5)
noncomputable def Gwqa_5 : Seg := ⟨44, [.agg ⟨[i 3, i 0, i 0, ff, i 5, i 0, i 1, i 0, i 0, i 0, l0, s0, l 20 0 1 INF, i 0, i 0, i 0, i 0, l0]⟩], [Gwqa_e19, Gwqa_e20], 22, .tuple ⟨[l 80 0 12 INF, i 0]⟩, [Gwqa_e21], 83⟩
theorem Gwqa_5_ok : segOk Tryz.prog 20 (Kno) 10000000 Gwqa_5 = true := by kernel_rfl
noncomputable def Gwqa_e22 : Nat × AO := (20, r [i 1, i 1, i 1, i 1005, l 22 0 1 INF, p 23 0, m0, m0, m0, l0, l 24 0 1 INF] 118)
noncomputable def Gwqa_e23 : Nat × AO := (23, r [m 25] 591)
noncomputable def Gwqa_e24 : Nat × AO := (25, .obj (.map ⟨[⟨sb 1 0x61, p 26 0, 0⟩]⟩ 1))
noncomputable def Gwqa_e25 : Nat × AO := (26, r [l 27 0 1 INF, m 28] 367)
noncomputable def Gwqa_e26 : Nat × AO := (27, R [sb 1 0x61, i 1, sb 1 0x78, i 5, i 0, i 1, i 0] 161)
noncomputable def Gwqa_e27 : Nat × AO := (28, .obj (.map ⟨[]⟩ 0))
noncomputable def Gwqa_e28 : Nat × AO := (24, R [sb 1 0x61, i 1, sb 1 0x78, i 5, i 0, i 1, i 0] 161)
noncomputable def Gwqa_e29 : Nat × AO := (21, R [sb 1 0x61, i 1, l 29 0 1 INF] 63)
noncomputable def Gwqa_e30 : Nat × AO := (29, R [sb 1 0x78] 9)
noncomputable def Gwqa_e31 : Nat × AO := (20, r [i 1, i 1, i 1, i 1005, l 22 0 1 INF, p 124 0, m0, m0, m0, l0, l 211 0 2 INF] 118)
noncomputable def Gwqa_e32 : Nat × AO := (124, r [m 200] 591)
noncomputable def Gwqa_e33 : Nat × AO := (200, .obj (.map ⟨[⟨sb 1 0x61, p 205 0, 0⟩]⟩ 1))
noncomputable def Gwqa_e34 : Nat × AO := (205, r [l 249 0 2 INF, m 204] 367)
noncomputable def Gwqa_e35 : Nat × AO := (249, R [sb 1 0x61, i 1, sb 1 0x78, i 5, i 0, i 1, i 0, sb 1 0x61, i 2, sb 1 0x78, i 5, i 1, i 1, i 0] 161)
noncomputable def Gwqa_e36 : Nat × AO := (204, .obj (.map ⟨[]⟩ 0))
noncomputable def Gwqa_e37 : Nat × AO := (211, R [sb 1 0x61, i 1, sb 1 0x78, i 5, i 0, i 1, i 0, sb 1 0x61, i 2, sb 1 0x78, i 5, i 1, i 1, i 0] 161)
noncomputable def Gwqa_6 : Seg := ⟨43, [p 20 0, .agg ⟨[i 3, i 0, i 0, ff, i 5, i 1, i 1, i 0, i 0, i 0, l0, s0, l 21 0 1 INF, i 0, i 0, i 0, i 0, l0]⟩], [Gwqa_e22, Gwqa_e8, Gwqa_e23, Gwqa_e24, Gwqa_e25, Gwqa_e26, Gwqa_e27, Gwqa_e28, Gwqa_e29, Gwqa_e30], 30, i 0, [Gwqa_e31, Gwqa_e32, Gwqa_e33, Gwqa_e34, Gwqa_e35, Gwqa_e36, Gwqa_e37], 251⟩
theorem Gwqa_6_ok : segOk Tryz.prog 20 (Kno) 10000000 Gwqa_6 = true := by kernel_rfl
noncomputable def Gwqa_e38 : Nat × AO := (20, R [sb 1 0x61, i 1, l 21 0 1 INF] 63)
noncomputable def Gwqa_e39 : Nat × AO := (80, R (bz 12 0x010105780101026101010003) 5)
noncomputable def Gwqa_7 : Seg := ⟨44, [.agg ⟨[i 3, i 0, i 0, ff, i 5, i 1, i 1, i 0, i 0, i 0, l0, s0, l 20 0 1 INF, i 0, i 0, i 0, i 0, l0]⟩], [Gwqa_e38, Gwqa_e20], 22, .tuple ⟨[l 80 0 12 INF, i 0]⟩, [Gwqa_e39], 83⟩
theorem Gwqa_7_ok : segOk Tryz.prog 20 (Kno) 10000000 Gwqa_7 = true := by kernel_rfl
noncomputable def Gwqa_e40 : Nat × AO := (20, r [i 1, i 1, i 1, i 1005, l 22 0 1 INF, p 23 0, m0, m0, m0, l0, l 24 0 2 INF] 118)
noncomputable def Gwqa_e41 : Nat × AO := (26, r [l 27 0 2 INF, m 28] 367)
noncomputable def Gwqa_e42 : Nat × AO := (27, R [sb 1 0x61, i 1, sb 1 0x78, i 5, i 0, i 1, i 0, sb 1 0x61, i 2, sb 1 0x78, i 5, i 1, i 1, i 0] 161)
noncomputable def Gwqa_e43 : Nat × AO := (24, R [sb 1 0x61, i 1, sb 1 0x78, i 5, i 0, i 1, i 0, sb 1 0x61, i 2, sb 1 0x78, i 5, i 1, i 1, i 0] 161)
noncomputable def Gwqa_e44 : Nat × AO := (21, R [sb 1 0x61, i 2, l 29 0 1 INF] 63)
noncomputable def Gwqa_e45 : Nat × AO := (20, r [i 1, i 1, i 1, i 1005, l 22 0 1 INF, p 124 0, m0, m0, m0, l0, l 247 0 3 INF] 118)
noncomputable def Gwqa_e46 : Nat × AO := (124, r [m 236] 591)
noncomputable def Gwqa_e47 : Nat × AO := (236, .obj (.map ⟨[⟨sb 1 0x61, p 241 0, 0⟩]⟩ 1))
noncomputable def Gwqa_e48 : Nat × AO := (241, r [l 285 0 3 INF, m 240] 367)
noncomputable def Gwqa_e49 : Nat × AO := (285, R [sb 1 0x61, i 1, sb 1 0x78, i 5, i 0, i 1, i 0, sb 1 0x61, i 2, sb 1 0x78, i 5, i 1, i 1, i 0, sb 1 0x61, i 3, sb 1 0x78, i 5, i 2, i 1, i 0] 161)
noncomputable def Gwqa_e50 : Nat × AO := (240, .obj (.map ⟨[]⟩ 0))
noncomputable def Gwqa_e51 : Nat × AO := (247, R [sb 1 0x61, i 1, sb 1 0x78, i 5, i 0, i 1, i 0, sb 1 0x61, i 2, sb 1 0x78, i 5, i 1, i 1, i 0, sb 1 0x61, i 3, sb 1 0x78, i 5, i 2, i 1, i 0] 161)
noncomputable def Gwqa_8 : Seg := ⟨43, [p 20 0, .agg ⟨[i 3, i 0, i 0, ff, i 5, i 2, i 1, i 0, i 0, i 0, l0, s0, l 21 0 1 INF, i 0, i 0, i 0, i 0, l0]⟩], [Gwqa_e40, Gwqa_e8, Gwqa_e23, Gwqa_e24, Gwqa_e41, Gwqa_e42, Gwqa_e27, Gwqa_e43, Gwqa_e44, Gwqa_e30], 30, i 0, [Gwqa_e45, Gwqa_e46, Gwqa_e47, Gwqa_e48, Gwqa_e49, Gwqa_e50, Gwqa_e51], 287⟩
theorem Gwqa_8_ok : segOk Tryz.prog 20 (Kno) 10000000 Gwqa_8 = true := by kernel_rfl
noncomputable def Gwqa_e52 : Nat × AO := (20, R [sb 1 0x61, i 2, l 21 0 1 INF] 63)
noncomputable def Gwqa_e53 : Nat × AO := (80, R (bz 12 0x010205780101046101010003) 5)
noncomputable def Gwqa_9 : Seg := ⟨44, [.agg ⟨[i 3, i 0, i 0, ff, i 5, i 2, i 1, i 0, i 0, i 0, l0, s0, l 20 0 1 INF, i 0, i 0, i 0, i 0, l0]⟩], [Gwqa_e52, Gwqa_e20], 22, .tuple ⟨[l 80 0 12 INF, i 0]⟩, [Gwqa_e53], 83⟩
theorem Gwqa_9_ok : segOk Tryz.prog 20 (Kno) 10000000 Gwqa_9 = true := by kernel_rfl
noncomputable def Gwqa_e54 : Nat × AO := (20, r [i 1, i 1, i 1, i 1005, l 22 0 1 INF, p 23 0, m0, m0, m0, l0, l 24 0 3 INF] 118)
noncomputable def Gwqa_e55 : Nat × AO := (26, r [l 27 0 3 INF, m 28] 367)
noncomputable def Gwqa_e56 : Nat × AO := (27, R [sb 1 0x61, i 1, sb 1 0x78, i 5, i 0, i 1, i 0, sb 1 0x61, i 2, sb 1 0x78, i 5, i 1, i 1, i 0, sb 1 0x61, i 3, sb 1 0x78, i 5, i 2, i 1, i 0] 161)
noncomputable def Gwqa_e57 : Nat × AO := (24, R [sb 1 0x61, i 1, sb 1 0x78, i 5, i 0, i 1, i 0, sb 1 0x61, i 2, sb 1 0x78, i 5, i 1, i 1, i 0, sb 1 0x61, i 3, sb 1 0x78, i 5, i 2, i 1, i 0] 161)
noncomputable def Gwqa_e58 : Nat × AO := (21, R [sb 1 0x61, i 3, l 29 0 1 INF] 63)
noncomputable def Gwqa_e59 : Nat × AO := (20, r [i 1, i 1, i 1, i 1005, l 22 0 1 INF, p 124 0, m0, m0, m0, l0, l 283 0 4 INF] 118)
noncomputable def Gwqa_e60 : Nat × AO := (124, r [m 272] 591)
noncomputable def Gwqa_e61 : Nat × AO := (272, .obj (.map ⟨[⟨sb 1 0x61, p 277 0, 0⟩]⟩ 1))
noncomputable def Gwqa_e62 : Nat × AO := (277, r [l 321 0 4 INF, m 276] 367)
noncomputable def Gwqa_e63 : Nat × AO := (321, R [sb 1 0x61, i 1, sb 1 0x78, i 5, i 0, i 1, i 0, sb 1 0x61, i 2, sb 1 0x78, i 5, i 1, i 1, i 0, sb 1 0x61, i 3, sb 1 0x78, i 5, i 2, i 1, i 0, sb 1 0x61, i 4, sb 1 0x78, i 5, i 3, i 1, i 0] 161)
noncomputable def Gwqa_e64 : Nat × AO := (276, .obj (.map ⟨[]⟩ 0))
noncomputable def Gwqa_e65 : Nat × AO := (283, R [sb 1 0x61, i 1, sb 1 0x78, i 5, i 0, i 1, i 0, sb 1 0x61, i 2, sb 1 0x78, i 5, i 1, i 1, i 0, sb 1 0x61, i 3, sb 1 0x78, i 5, i 2, i 1, i 0, sb 1 0x61, i 4, sb 1 0x78, i 5, i 3, i 1, i 0] 161)
noncomputable def Gwqa_10 : Seg := ⟨43, [p 20 0, .agg ⟨[i 3, i 0, i 0, ff, i 5, i 3, i 1, i 0, i 0, i 0, l0, s0, l 21 0 1 INF, i 0, i 0, i 0, i 0, l0]⟩], [Gwqa_e54, Gwqa_e8, Gwqa_e23, Gwqa_e24, Gwqa_e55, Gwqa_e56, Gwqa_e27, Gwqa_e57, Gwqa_e58, Gwqa_e30], 30, i 0, [Gwqa_e59, Gwqa_e60, Gwqa_e61, Gwqa_e62, Gwqa_e63, Gwqa_e64, Gwqa_e65], 323⟩
theorem Gwqa_10_ok : segOk Tryz.prog 20 (Kno) 10000000 Gwqa_10 = true := by kernel_rfl
noncomputable def Gwqa_e66 : Nat × AO := (20, R [sb 1 0x61, i 3, l 21 0 1 INF] 63)
noncomputable def Gwqa_e67 : Nat × AO := (80, R (bz 12 0x010305780101066101010003) 5)
noncomputable def Gwqa_11 : Seg := ⟨44, [.agg ⟨[i 3, i 0, i 0, ff, i 5, i 3, i 1, i 0, i 0, i 0, l0, s0, l 20 0 1 INF, i 0, i 0, i 0, i 0, l0]⟩], [Gwqa_e66, Gwqa_e20], 22, .tuple ⟨[l 80 0 12 INF, i 0]⟩, [Gwqa_e67], 83⟩
theorem Gwqa_11_ok : segOk Tryz.prog 20 (Kno) 10000000 Gwqa_11 = true := by kernel_rfl
noncomputable def Gwqa_e68 : Nat × AO := (20, r [i 1, i 1, i 1, i 1005, l 22 0 1 INF, p 23 0, m0, m0, m0, l0, l 24 0 4 INF] 118)
noncomputable def Gwqa_e69 : Nat × AO := (26, r [l 27 0 4 INF, m 28] 367)
noncomputable def Gwqa_e70 : Nat × AO := (27, R [sb 1 0x61, i 1, sb 1 0x78, i 5, i 0, i 1, i 0, sb 1 0x61, i 2, sb 1 0x78, i 5, i 1, i 1, i 0, sb 1 0x61, i 3, sb 1 0x78, i 5, i 2, i 1, i 0, sb 1 0x61, i 4, sb 1 0x78, i 5, i 3, i 1, i 0] 161)
noncomputable def Gwqa_e71 : Nat × AO := (24, R [sb 1 0x61, i 1, sb 1 0x78, i 5, i 0, i 1, i 0, sb 1 0x61, i 2, sb 1 0x78, i 5, i 1, i 1, i 0, sb 1 0x61, i 3, sb 1 0x78, i 5, i 2, i 1, i 0, sb 1 0x61, i 4, sb 1 0x78, i 5, i 3, i 1, i 0] 161)
noncomputable def Gwqa_e72 : Nat × AO := (21, R [sb 1 0x61, i 4, l 29 0 1 INF] 63)
noncomputable def Gwqa_e73 : Nat × AO := (20, r [i 1, i 1, i 1, i 1005, l 22 0 1 INF, p 124 0, m0, m0, m0, l0, l 319 0 5 INF] 118)
noncomputable def Gwqa_e74 : Nat × AO := (124, r [m 308] 591)
noncomputable def Gwqa_e75 : Nat × AO := (308, .obj (.map ⟨[⟨sb 1 0x61, p 313 0, 0⟩]⟩ 1))
noncomputable def Gwqa_e76 : Nat × AO := (313, r [l 357 0 5 INF, m 312] 367)
noncomputable def Gwqa_e77 : Nat × AO := (357, R [sb 1 0x61, i 1, sb 1 0x78, i 5, i 0, i 1, i 0, sb 1 0x61, i 2, sb 1 0x78, i 5, i 1, i 1, i 0, sb 1 0x61, i 3, sb 1 0x78, i 5, i 2, i 1, i 0, sb 1 0x61, i 4, sb 1 0x78, i 5, i 3, i 1, i 0, sb 1 0x61, i 5, sb 1 0x78, i 5, i 4, i 1, i 0] 161)
noncomputable def Gwqa_e78 : Nat × AO := (312, .obj (.map ⟨[]⟩ 0))
noncomputable def Gwqa_e79 : Nat × AO := (319, R [sb 1 0x61, i 1, sb 1 0x78, i 5, i 0, i 1, i 0, sb 1 0x61, i 2, sb 1 0x78, i 5, i 1, i 1, i 0, sb 1 0x61, i 3, sb 1 0x78, i 5, i 2, i 1, i 0, sb 1 0x61, i 4, sb 1 0x78, i 5, i 3, i 1, i 0, sb 1 0x61, i 5, sb 1 0x78, i 5, i 4, i 1, i 0] 161)
noncomputable def Gwqa_12 : Seg := ⟨43, [p 20 0, .agg ⟨[i 3, i 0, i 0, ff, i 5, i 4, i 1, i 0, i 0, i 0, l0, s0, l 21 0 1 INF, i 0, i 0, i 0, i 0, l0]⟩], [Gwqa_e68, Gwqa_e8, Gwqa_e23, Gwqa_e24, Gwqa_e69, Gwqa_e70, Gwqa_e27, Gwqa_e71, Gwqa_e72, Gwqa_e30], 30, i 0, [Gwqa_e73, Gwqa_e74, Gwqa_e75, Gwqa_e76, Gwqa_e77, Gwqa_e78, Gwqa_e79], 359⟩
theorem Gwqa_12_ok : segOk Tryz.prog 20 (Kno) 10000000 Gwqa_12 = true := by kernel_rfl
noncomputable def Gwqa_e80 : Nat × AO := (20, R [sb 1 0x61, i 4, l 21 0 1 INF] 63)
noncomputable def Gwqa_e81 : Nat × AO := (80, R (bz 12 0x010405780101086101010003) 5)
noncomputable def Gwqa_13 : Seg := ⟨44, [.agg ⟨[i 3, i 0, i 0, ff, i 5, i 4, i 1, i 0, i 0, i 0, l0, s0, l 20 0 1 INF, i 0, i 0, i 0, i 0, l0]⟩], [Gwqa_e80, Gwqa_e20], 22, .tuple ⟨[l 80 0 12 INF, i 0]⟩, [Gwqa_e81], 83⟩
theorem Gwqa_13_ok : segOk Tryz.prog 20 (Kno) 10000000 Gwqa_13 = true := by kernel_rfl
noncomputable def Gwqa_e82 : Nat × AO := (20, r [i 1, i 1, i 1, i 1005, l 22 0 1 INF, p 23 0, m0, m0, m0, l0, l 24 0 5 INF] 118)
noncomputable def Gwqa_e83 : Nat × AO := (26, r [l 27 0 5 INF, m 28] 367)
noncomputable def Gwqa_e84 : Nat × AO := (27, R [sb 1 0x61, i 1, sb 1 0x78, i 5, i 0, i 1, i 0, sb 1 0x61, i 2, sb 1 0x78, i 5, i 1, i 1, i 0, sb 1 0x61, i 3, sb 1 0x78, i 5, i 2, i 1, i 0, sb 1 0x61, i 4, sb 1 0x78, i 5, i 3, i 1, i 0, sb 1 0x61, i 5, sb 1 0x78, i 5, i 4, i 1, i 0] 161)
noncomputable def Gwqa_e85 : Nat × AO := (24, R [sb 1 0x61, i 1, sb 1 0x78, i 5, i 0, i 1, i 0, sb 1 0x61, i 2, sb 1 0x78, i 5, i 1, i 1, i 0, sb 1 0x61, i 3, sb 1 0x78, i 5, i 2, i 1, i 0, sb 1 0x61, i 4, sb 1 0x78, i 5, i 3, i 1, i 0, sb 1 0x61, i 5, sb 1 0x78, i 5, i 4, i 1, i 0] 161)
noncomputable def Gwqa_e86 : Nat × AO := (21, R [sb 1 0x61, i 5, l 29 0 1 INF] 63)
noncomputable def Gwqa_e87 : Nat × AO := (20, r [i 1, i 1, i 1, i 1005, l 22 0 1 INF, p 124 0, m0, m0, m0, l0, l 355 0 6 INF] 118)
noncomputable def Gwqa_e88 : Nat × AO := (124, r [m 344] 591)
noncomputable def Gwqa_e89 : Nat × AO := (344, .obj (.map ⟨[⟨sb 1 0x61, p 349 0, 0⟩]⟩ 1))
noncomputable def Gwqa_e90 : Nat × AO := (349, r [l 393 0 6 INF, m 348] 367)
noncomputable def Gwqa_e91 : Nat × AO := (393, R [sb 1 0x61, i 1, sb 1 0x78, i 5, i 0, i 1, i 0, sb 1 0x61, i 2, sb 1 0x78, i 5, i 1, i 1, i 0, sb 1 0x61, i 3, sb 1 0x78, i 5, i 2, i 1, i 0, sb 1 0x61, i 4, sb 1 0x78, i 5, i 3, i 1, i 0, sb 1 0x61, i 5, sb 1 0x78, i 5, i 4, i 1, i 0, sb 1 0x61, i 6, sb 1 0x78, i 5, i 5, i 1, i 0] 161)
noncomputable def Gwqa_e92 : Nat × AO := (348, .obj (.map ⟨[]⟩ 0))
noncomputable def Gwqa_e93 : Nat × AO := (355, R [sb 1 0x61, i 1, sb 1 0x78, i 5, i 0, i 1, i 0, sb 1 0x61, i 2, sb 1 0x78, i 5, i 1, i 1, i 0, sb 1 0x61, i 3, sb 1 0x78, i 5, i 2, i 1, i 0, sb 1 0x61, i 4, sb 1 0x78, i 5, i 3, i 1, i 0, sb 1 0x61, i 5, sb 1 0x78, i 5, i 4, i 1, i 0, sb 1 0x61, i 6, sb 1 0x78, i 5, i 5, i 1, i 0] 161)
noncomputable def Gwqa_14 : Seg := ⟨43, [p 20 0, .agg ⟨[i 3, i 0, i 0, ff, i 5, i 5, i 1, i 0, i 0, i 0, l0, s0, l 21 0 1 INF, i 0, i 0, i 0, i 0, l0]⟩], [Gwqa_e82, Gwqa_e8, Gwqa_e23, Gwqa_e24, Gwqa_e83, Gwqa_e84, Gwqa_e27, Gwqa_e85, Gwqa_e86, Gwqa_e30], 30, i 0, [Gwqa_e87, Gwqa_e88, Gwqa_e89, Gwqa_e90, Gwqa_e91, Gwqa_e92, Gwqa_e93], 395⟩
theorem Gwqa_14_ok : segOk Tryz.prog 20 (Kno) 10000000 Gwqa_14 = true := by kernel_rfl
noncomputable def Gwqa_e94 : Nat × AO := (20, R [sb 1 0x61, i 5, l 21 0 1 INF] 63)
noncomputable def Gwqa_e95 : Nat × AO := (80, R (bz 12 0x0105057801010a6101010003) 5)
noncomputable def Gwqa_15 : Seg := ⟨44, [.agg ⟨[i 3, i 0, i 0, ff, i 5, i 5, i 1, i 0, i 0, i 0, l0, s0, l 20 0 1 INF, i 0, i 0, i 0, i 0, l0]⟩], [Gwqa_e94, Gwqa_e20], 22, .tuple ⟨[l 80 0 12 INF, i 0]⟩, [Gwqa_e95], 83⟩
theorem Gwqa_15_ok : segOk Tryz.prog 20 (Kno) 10000000 Gwqa_15 = true := by kernel_rfl
noncomputable def Gwqa_e96 : Nat × AO := (20, r [i 1, i 1, i 1, i 1005, l 22 0 1 INF, p 23 0, m0, m0, m0, l0, l 24 0 6 INF] 118)
noncomputable def Gwqa_e97 : Nat × AO := (26, r [l 27 0 6 INF, m 28] 367)
noncomputable def Gwqa_e98 : Nat × AO := (27, R [sb 1 0x61, i 1, sb 1 0x78, i 5, i 0, i 1, i 0, sb 1 0x61, i 2, sb 1 0x78, i 5, i 1, i 1, i 0, sb 1 0x61, i 3, sb 1 0x78, i 5, i 2, i 1, i 0, sb 1 0x61, i 4, sb 1 0x78, i 5, i 3, i 1, i 0, sb 1 0x61, i 5, sb 1 0x78, i 5, i 4, i 1, i 0, sb 1 0x61, i 6, sb 1 0x78, i 5, i 5, i 1, i 0] 161)
noncomputable def Gwqa_e99 : Nat × AO := (24, R [sb 1 0x61, i 1, sb 1 0x78, i 5, i 0, i 1, i 0, sb 1 0x61, i 2, sb 1 0x78, i 5, i 1, i 1, i 0, sb 1 0x61, i 3, sb 1 0x78, i 5, i 2, i 1, i 0, sb 1 0x61, i 4, sb 1 0x78, i 5, i 3, i 1, i 0, sb 1 0x61, i 5, sb 1 0x78, i 5, i 4, i 1, i 0, sb 1 0x61, i 6, sb 1 0x78, i 5, i 5, i 1, i 0] 161)
noncomputable def Gwqa_e100 : Nat × AO := (21, R [sb 1 0x61, i 6, l 29 0 1 INF] 63)
noncomputable def Gwqa_e101 : Nat × AO := (20, r [i 1, i 1, i 1, i 1005, l 22 0 1 INF, p 124 0, m0, m0, m0, l0, l 391 0 7 INF] 118)
noncomputable def Gwqa_e102 : Nat × AO := (124, r [m 380] 591)
noncomputable def Gwqa_e103 : Nat × AO := (380, .obj (.map ⟨[⟨sb 1 0x61, p 385 0, 0⟩]⟩ 1))
noncomputable def Gwqa_e104 : Nat × AO := (385, r [l 429 0 7 INF, m 384] 367)
noncomputable def Gwqa_e105 : Nat × AO := (429, R [sb 1 0x61, i 1, sb 1 0x78, i 5, i 0, i 1, i 0, sb 1 0x61, i 2, sb 1 0x78, i 5, i 1, i 1, i 0, sb 1 0x61, i 3, sb 1 0x78, i 5, i 2, i 1, i 0, sb 1 0x61, i 4, sb 1 0x78, i 5, i 3, i 1, i 0, sb 1 0x61, i 5, sb 1 0x78, i 5, i 4, i 1, i 0, sb 1 0x61, i 6, sb 1 0x78, i 5, i 5, i 1, i 0, sb 1 0x61, i 7, sb 1 0x78, i 5, i 6, i 1, i 0] 161)
noncomputable def Gwqa_e106 : Nat × AO := (384, .obj (.map ⟨[]⟩ 0))
noncomputable def Gwqa_e107 : Nat × AO := (391, R [sb 1 0x61, i 1, sb 1 0x78, i 5, i 0, i 1, i 0, sb 1 0x61, i 2, sb 1 0x78, i 5, i 1, i 1, i 0, sb 1 0x61, i 3, sb 1 0x78, i 5, i 2, i 1, i 0, sb 1 0x61, i 4, sb 1 0x78, i 5, i 3, i 1, i 0, sb 1 0x61, i 5, sb 1 0x78, i 5, i 4, i 1, i 0, sb 1 0x61, i 6, sb 1 0x78, i 5, i 5, i 1, i 0, sb 1 0x61, i 7, sb 1 0x78, i 5, i 6, i 1, i 0] 161)
noncomputable def Gwqa_16 : Seg := ⟨43, [p 20 0, .agg ⟨[i 3, i 0, i 0, ff, i 5, i 6, i 1, i 0, i 0, i 0, l0, s0, l 21 0 1 INF, i 0, i 0, i 0, i 0, l0]⟩], [Gwqa_e96, Gwqa_e8, Gwqa_e23, Gwqa_e24, Gwqa_e97, Gwqa_e98, Gwqa_e27, Gwqa_e99, Gwqa_e100, Gwqa_e30], 30, i 0, [Gwqa_e101, Gwqa_e102, Gwqa_e103, Gwqa_e104, Gwqa_e105, Gwqa_e106, Gwqa_e107], 431⟩
theorem Gwqa_16_ok : segOk Tryz.prog 20 (Kno) 10000000 Gwqa_16 = true := by kernel_rfl
noncomputable def Gwqa_e108 : Nat × AO := (20, R [sb 1 0x61, i 6, l 21 0 1 INF] 63)
noncomputable def Gwqa_e109 : Nat × AO := (80, R (bz 12 0x0106057801010c6101010003) 5)
noncomputable def Gwqa_17 : Seg := ⟨44, [.agg ⟨[i 3, i 0, i 0, ff, i 5, i 6, i 1, i 0, i 0, i 0, l0, s0, l 20 0 1 INF, i 0, i 0, i 0, i 0, l0]⟩], [Gwqa_e108, Gwqa_e20], 22, .tuple ⟨[l 80 0 12 INF, i 0]⟩, [Gwqa_e109], 83⟩
theorem Gwqa_17_ok : segOk Tryz.prog 20 (Kno) 10000000 Gwqa_17 = true := by kernel_rfl
noncomputable def Gwqa_e110 : Nat × AO := (20, r [i 1, i 1, i 1, i 1005, l 22 0 1 INF, p 23 0, m0, m0, m0, l0, l 24 0 7 INF] 118)
noncomputable def Gwqa_e111 : Nat × AO := (26, r [l 27 0 7 INF, m 28] 367)
noncomputable def Gwqa_e112 : Nat × AO := (27, R [sb 1 0x61, i 1, sb 1 0x78, i 5, i 0, i 1, i 0, sb 1 0x61, i 2, sb 1 0x78, i 5, i 1, i 1, i 0, sb 1 0x61, i 3, sb 1 0x78, i 5, i 2, i 1, i 0, sb 1 0x61, i 4, sb 1 0x78, i 5, i 3, i 1, i 0, sb 1 0x61, i 5, sb 1 0x78, i 5, i 4, i 1, i 0, sb 1 0x61, i 6, sb 1 0x78, i 5, i 5, i 1, i 0, sb 1 0x61, i 7, sb 1 0x78, i 5, i 6, i 1, i 0] 161)
noncomputable def Gwqa_e113 : Nat × AO := (24, R [sb 1 0x61, i 1, sb 1 0x78, i 5, i 0, i 1, i 0, sb 1 0x61, i 2, sb 1 0x78, i 5, i 1, i 1, i 0, sb 1 0x61, i 3, sb 1 0x78, i 5, i 2, i 1, i 0, sb 1 0x61, i 4, sb 1 0x78, i 5, i 3, i 1, i 0, sb 1 0x61, i 5, sb 1 0x78, i 5, i 4, i 1, i 0, sb 1 0x61, i 6, sb 1 0x78, i 5, i 5, i 1, i 0, sb 1 0x61, i 7, sb 1 0x78, i 5, i 6, i 1, i 0] 161)
noncomputable def Gwqa_e114 : Nat × AO := (21, R [sb 1 0x61, i 7, l 29 0 1 INF] 63)
noncomputable def Gwqa_e115 : Nat × AO := (20, r [i 1, i 1, i 1, i 1005, l 22 0 1 INF, p 124 0, m0, m0, m0, l0, l 427 0 8 INF] 118)
noncomputable def Gwqa_e116 : Nat × AO := (124, r [m 416] 591)
noncomputable def Gwqa_e117 : Nat × AO := (416, .obj (.map ⟨[⟨sb 1 0x61, p 421 0, 0⟩]⟩ 1))
noncomputable def Gwqa_e118 : Nat × AO := (421, r [l 465 0 8 INF, m 420] 367)
noncomputable def Gwqa_e119 : Nat × AO := (465, R [sb 1 0x61, i 1, sb 1 0x78, i 5, i 0, i 1, i 0, sb 1 0x61, i 2, sb 1 0x78, i 5, i 1, i 1, i 0, sb 1 0x61, i 3, sb 1 0x78, i 5, i 2, i 1, i 0, sb 1 0x61, i 4, sb 1 0x78, i 5, i 3, i 1, i 0, sb 1 0x61, i 5, sb 1 0x78, i 5, i 4, i 1, i 0, sb 1 0x61, i 6, sb 1 0x78, i 5, i 5, i 1, i 0, sb 1 0x61, i 7, sb 1 0x78, i 5, i 6, i 1, i 0, sb 1 0x61, i 8, sb 1 0x78, i 5, i 7, i 1, i 0] 161)
noncomputable def Gwqa_e120 : Nat × AO := (420, .obj (.map ⟨[]⟩ 0))
noncomputable def Gwqa_e121 : Nat × AO := (427, R [sb 1 0x61, i 1, sb 1 0x78, i 5, i 0, i 1, i 0, sb 1 0x61, i 2, sb 1 0x78, i 5, i 1, i 1, i 0, sb 1 0x61, i 3, sb 1 0x78, i 5, i 2, i 1, i 0, sb 1 0x61, i 4, sb 1 0x78, i 5, i 3, i 1, i 0, sb 1 0x61, i 5, sb 1 0x78, i 5, i 4, i 1, i 0, sb 1 0x61, i 6, sb 1 0x78, i 5, i 5, i 1, i 0, sb 1 0x61, i 7, sb 1 0x78, i 5, i 6, i 1, i 0, sb 1 0x61, i 8, sb 1 0x78, i 5, i 7, i 1, i 0] 161)
noncomputable def Gwqa_18 : Seg := ⟨43, [p 20 0, .agg ⟨[i 3, i 0, i 0, ff, i 5, i 7, i 1, i 0, i 0, i 0, l0, s0, l 21 0 1 INF, i 0, i 0, i 0, i 0, l0]⟩], [Gwqa_e110, Gwqa_e8, Gwqa_e23, Gwqa_e24, Gwqa_e111, Gwqa_e112, Gwqa_e27, Gwqa_e113, Gwqa_e114, Gwqa_e30], 30, i 0, [Gwqa_e115, Gwqa_e116, Gwqa_e117, Gwqa_e118, Gwqa_e119, Gwqa_e120, Gwqa_e121], 467⟩
theorem Gwqa_18_ok : segOk Tryz.prog 20 (Kno) 10000000 Gwqa_18 = true := by kernel_rfl
noncomputable def Gwqa_e122 : Nat × AO := (20, R [sb 1 0x61, i 7, l 21 0 1 INF] 63)
noncomputable def Gwqa_e123 : Nat × AO := (80, R (bz 12 0x0107057801010e6101010003) 5)
noncomputable def Gwqa_19 : Seg := ⟨44, [.agg ⟨[i 3, i 0, i 0, ff, i 5, i 7, i 1, i 0, i 0, i 0, l0, s0, l 20 0 1 INF, i 0, i 0, i 0, i 0, l0]⟩], [Gwqa_e122, Gwqa_e20], 22, .tuple ⟨[l 80 0 12 INF, i 0]⟩, [Gwqa_e123], 83⟩
theorem Gwqa_19_ok : segOk Tryz.prog 20 (Kno) 10000000 Gwqa_19 = true := by kernel_rfl
noncomputable def Gwqa_e124 : Nat × AO := (20, r [i 1, i 1, i 1, i 1005, l 22 0 1 INF, p 23 0, m0, m0, m0, l0, l 24 0 8 INF] 118)
noncomputable def Gwqa_e125 : Nat × AO := (26, r [l 27 0 8 INF, m 28] 367)
noncomputable def Gwqa_e126 : Nat × AO := (27, R [sb 1 0x61, i 1, sb 1 0x78, i 5, i 0, i 1, i 0, sb 1 0x61, i 2, sb 1 0x78, i 5, i 1, i 1, i 0, sb 1 0x61, i 3, sb 1 0x78, i 5, i 2, i 1, i 0, sb 1 0x61, i 4, sb 1 0x78, i 5, i 3, i 1, i 0, sb 1 0x61, i 5, sb 1 0x78, i 5, i 4, i 1, i 0, sb 1 0x61, i 6, sb 1 0x78, i 5, i 5, i 1, i 0, sb 1 0x61, i 7, sb 1 0x78, i 5, i 6, i 1, i 0, sb 1 0x61, i 8, sb 1 0x78, i 5, i 7, i 1, i 0] 161)
noncomputable def Gwqa_e127 : Nat × AO := (24, R [sb 1 0x61, i 1, sb 1 0x78, i 5, i 0, i 1, i 0, sb 1 0x61, i 2, sb 1 0x78, i 5, i 1, i 1, i 0, sb 1 0x61, i 3, sb 1 0x78, i 5, i 2, i 1, i 0, sb 1 0x61, i 4, sb 1 0x78, i 5, i 3, i 1, i 0, sb 1 0x61, i 5, sb 1 0x78, i 5, i 4, i 1, i 0, sb 1 0x61, i 6, sb 1 0x78, i 5, i 5, i 1, i 0, sb 1 0x61, i 7, sb 1 0x78, i 5, i 6, i 1, i 0, sb 1 0x61, i 8, sb 1 0x78, i 5, i 7, i 1, i 0] 161)
noncomputable def Gwqa_e128 : Nat × AO := (21, R [sb 1 0x61, i 8, l 29 0 1 INF] 63)
noncomputable def Gwqa_e129 : Nat × AO := (20, r [i 1, i 1, i 1, i 1005, l 22 0 1 INF, p 124 0, m0, m0, m0, l0, l 463 0 9 INF] 118)
noncomputable def Gwqa_e130 : Nat × AO := (124, r [m 452] 591)
noncomputable def Gwqa_e131 : Nat × AO := (452, .obj (.map ⟨[⟨sb 1 0x61, p 457 0, 0⟩]⟩ 1))
noncomputable def Gwqa_e132 : Nat × AO := (457, r [l 501 0 9 INF, m 456] 367)
noncomputable def Gwqa_e133 : Nat × AO := (501, R [sb 1 0x61, i 1, sb 1 0x78, i 5, i 0, i 1, i 0, sb 1 0x61, i 2, sb 1 0x78, i 5, i 1, i 1, i 0, sb 1 0x61, i 3, sb 1 0x78, i 5, i 2, i 1, i 0, sb 1 0x61, i 4, sb 1 0x78, i 5, i 3, i 1, i 0, sb 1 0x61, i 5, sb 1 0x78, i 5, i 4, i 1, i 0, sb 1 0x61, i 6, sb 1 0x78, i 5, i 5, i 1, i 0, sb 1 0x61, i 7, sb 1 0x78, i 5, i 6, i 1, i 0, sb 1 0x61, i 8, sb 1 0x78, i 5, i 7, i 1, i 0, sb 1 0x61, i 9, sb 1 0x78, i 5, i 8, i 1, i 0] 161)
noncomputable def Gwqa_e134 : Nat × AO := (456, .obj (.map ⟨[]⟩ 0))
noncomputable def Gwqa_e135 : Nat × AO := (463, R [sb 1 0x61, i 1, sb 1 0x78, i 5, i 0, i 1, i 0, sb 1 0x61, i 2, sb 1 0x78, i 5, i 1, i 1, i 0, sb 1 0x61, i 3, sb 1 0x78, i 5, i 2, i 1, i 0, sb 1 0x61, i 4, sb 1 0x78, i 5, i 3, i 1, i 0, sb 1 0x61, i 5, sb 1 0x78, i 5, i 4, i 1, i 0, sb 1 0x61, i 6, sb 1 0x78, i 5, i 5, i 1, i 0, sb 1 0x61, i 7, sb 1 0x78, i 5, i 6, i 1, i 0, sb 1 0x61, i 8, sb 1 0x78, i 5, i 7, i 1, i 0, sb 1 0x61, i 9, sb 1 0x78, i 5, i 8, i 1, i 0] 161)
noncomputable def Gwqa_20 : Seg := ⟨43, [p 20 0, .agg ⟨[i 3, i 0, i 0, ff, i 5, i 8, i 1, i 0, i 0, i 0, l0, s0, l 21 0 1 INF, i 0, i 0, i 0, i 0, l0]⟩], [Gwqa_e124, Gwqa_e8, Gwqa_e23, Gwqa_e24, Gwqa_e125, Gwqa_e126, Gwqa_e27, Gwqa_e127, Gwqa_e128, Gwqa_e30], 30, i 0, [Gwqa_e129, Gwqa_e130, Gwqa_e131, Gwqa_e132, Gwqa_e133, Gwqa_e134, Gwqa_e135], 503⟩
theorem Gwqa_20_ok : segOk Tryz.prog 20 (Kno) 10000000 Gwqa_20 = true := by kernel_rfl
noncomputable def Gwqa_e136 : Nat × AO := (20, R [sb 1 0x61, i 8, l 21 0 1 INF] 63)
noncomputable def Gwqa_e137 : Nat × AO := (80, R (bz 12 0x010805780101106101010003) 5)
noncomputable def Gwqa_21 : Seg := ⟨44, [.agg ⟨[i 3, i 0, i 0, ff, i 5, i 8, i 1, i 0, i 0, i 0, l0, s0, l 20 0 1 INF, i 0, i 0, i 0, i 0, l0]⟩], [Gwqa_e136, Gwqa_e20], 22, .tuple ⟨[l 80 0 12 INF, i 0]⟩, [Gwqa_e137], 83⟩
theorem Gwqa_21_ok : segOk Tryz.prog 20 (Kno) 10000000 Gwqa_21 = true := by kernel_rfl
noncomputable def Gwqa_e138 : Nat × AO := (20, r [i 1, i 1, i 1, i 1005, l 22 0 1 INF, p 23 0, m0, m0, m0, l0, l 24 0 9 INF] 118)
noncomputable def Gwqa_e139 : Nat × AO := (26, r [l 27 0 9 INF, m 28] 367)
noncomputable def Gwqa_e140 : Nat × AO := (27, R [sb 1 0x61, i 1, sb 1 0x78, i 5, i 0, i 1, i 0, sb 1 0x61, i 2, sb 1 0x78, i 5, i 1, i 1, i 0, sb 1 0x61, i 3, sb 1 0x78, i 5, i 2, i 1, i 0, sb 1 0x61, i 4, sb 1 0x78, i 5, i 3, i 1, i 0, sb 1 0x61, i 5, sb 1 0x78, i 5, i 4, i 1, i 0, sb 1 0x61, i 6, sb 1 0x78, i 5, i 5, i 1, i 0, sb 1 0x61, i 7, sb 1 0x78, i 5, i 6, i 1, i 0, sb 1 0x61, i 8, sb 1 0x78, i 5, i 7, i 1, i 0, sb 1 0x61, i 9, sb 1 0x78, i 5, i 8, i 1, i 0] 161)
noncomputable def Gwqa_e141 : Nat × AO := (24, R [sb 1 0x61, i 1, sb 1 0x78, i 5, i 0, i 1, i 0, sb 1 0x61, i 2, sb 1 0x78, i 5, i 1, i 1, i 0, sb 1 0x61, i 3, sb 1 0x78, i 5, i 2, i 1, i 0, sb 1 0x61, i 4, sb 1 0x78, i 5, i 3, i 1, i 0, sb 1 0x61, i 5, sb 1 0x78, i 5, i 4, i 1, i 0, sb 1 0x61, i 6, sb 1 0x78, i 5, i 5, i 1, i 0, sb 1 0x61, i 7, sb 1 0x78, i 5, i 6, i 1, i 0, sb 1 0x61, i 8, sb 1 0x78, i 5, i 7, i 1, i 0, sb 1 0x61, i 9, sb 1 0x78, i 5, i 8, i 1, i 0] 161)
noncomputable def Gwqa_e142 : Nat × AO := (21, R [sb 1 0x61, i 9, l 29 0 1 INF] 63)
noncomputable def Gwqa_e143 : Nat × AO := (20, r [i 1, i 1, i 1, i 1005, l 22 0 1 INF, p 124 0, m0, m0, m0, l0, l 499 0 10 INF] 118)
noncomputable def Gwqa_e144 : Nat × AO := (124, r [m 488] 591)
noncomputable def Gwqa_e145 : Nat × AO := (488, .obj (.map ⟨[⟨sb 1 0x61, p 493 0, 0⟩]⟩ 1))
noncomputable def Gwqa_e146 : Nat × AO := (493, r [l 537 0 10 INF, m 492] 367)
noncomputable def Gwqa_e147 : Nat × AO := (537, R [sb 1 0x61, i 1, sb 1 0x78, i 5, i 0, i 1, i 0, sb 1 0x61, i 2, sb 1 0x78, i 5, i 1, i 1, i 0, sb 1 0x61, i 3, sb 1 0x78, i 5, i 2, i 1, i 0, sb 1 0x61, i 4, sb 1 0x78, i 5, i 3, i 1, i 0, sb 1 0x61, i 5, sb 1 0x78, i 5, i 4, i 1, i 0, sb 1 0x61, i 6, sb 1 0x78, i 5, i 5, i 1, i 0, sb 1 0x61, i 7, sb 1 0x78, i 5, i 6, i 1, i 0, sb 1 0x61, i 8, sb 1 0x78, i 5, i 7, i 1, i 0, sb 1 0x61, i 9, sb 1 0x78, i 5, i 8, i 1, i 0, sb 1 0x61, i 10, sb 1 0x78, i 5, i 9, i 1, i 0] 161)
noncomputable def Gwqa_e148 : Nat × AO := (492, .obj (.map ⟨[]⟩ 0))
noncomputable def Gwqa_e149 : Nat × AO := (499, R [sb 1 0x61, i 1, sb 1 0x78, i 5, i 0, i 1, i 0, sb 1 0x61, i 2, sb 1 0x78, i 5, i 1, i 1, i 0, sb 1 0x61, i 3, sb 1 0x78, i 5, i 2, i 1, i 0, sb 1 0x61, i 4, sb 1 0x78, i 5, i 3, i 1, i 0, sb 1 0x61, i 5, sb 1 0x78, i 5, i 4, i 1, i 0, sb 1 0x61, i 6, sb 1 0x78, i 5, i 5, i 1, i 0, sb 1 0x61, i 7, sb 1 0x78, i 5, i 6, i 1, i 0, sb 1 0x61, i 8, sb 1 0x78, i 5, i 7, i 1, i 0, sb 1 0x61, i 9, sb 1 0x78, i 5, i 8, i 1, i 0, sb 1 0x61, i 10, sb 1 0x78, i 5, i 9, i 1, i 0] 161)
noncomputable def Gwqa_22 : Seg := ⟨43, [p 20 0, .agg ⟨[i 3, i 0, i 0, ff, i 5, i 9, i 1, i 0, i 0, i 0, l0, s0, l 21 0 1 INF, i 0, i 0, i 0, i 0, l0]⟩], [Gwqa_e138, Gwqa_e8, Gwqa_e23, Gwqa_e24, Gwqa_e139, Gwqa_e140, Gwqa_e27, Gwqa_e141, Gwqa_e142, Gwqa_e30], 30, i 0, [Gwqa_e143, Gwqa_e144, Gwqa_e145, Gwqa_e146, Gwqa_e147, Gwqa_e148, Gwqa_e149], 539⟩
theorem Gwqa_22_ok : segOk Tryz.prog 20 (Kno) 10000000 Gwqa_22 = true := by kernel_rfl
noncomputable def Gwqa_e150 : Nat × AO := (20, R [sb 1 0x61, i 9, l 21 0 1 INF] 63)
noncomputable def Gwqa_e151 : Nat × AO := (80, R (bz 12 0x010905780101126101010003) 5)
noncomputable def Gwqa_23 : Seg := ⟨44, [.agg ⟨[i 3, i 0, i 0, ff, i 5, i 9, i 1, i 0, i 0, i 0, l0, s0, l 20 0 1 INF, i 0, i 0, i 0, i 0, l0]⟩], [Gwqa_e150, Gwqa_e20], 22, .tuple ⟨[l 80 0 12 INF, i 0]⟩, [Gwqa_e151], 83⟩
theorem Gwqa_23_ok : segOk Tryz.prog 20 (Kno) 10000000 Gwqa_23 = true := by kernel_rfl
noncomputable def Gwqa_s : List Seg := [Gwqa_0, Gwqa_1, Gwqa_2, Gwqa_3, Gwqa_4, Gwqa_5, Gwqa_6, Gwqa_7, Gwqa_8, Gwqa_9, Gwqa_10, Gwqa_11, Gwqa_12, Gwqa_13, Gwqa_14, Gwqa_15, Gwqa_16, Gwqa_17, Gwqa_18, Gwqa_19, Gwqa_20, Gwqa_21, Gwqa_22, Gwqa_23]
theorem Gwqa_good {V : Nat} : ∀ g ∈ Gwqa_s, Good Tryz.prog 20 V g := good_cons (good_of follows (known_no) Gwqa_0_ok) (good_cons (good_of follows (known_no) Gwqa_1_ok) (good_cons (good_of follows (known_no) Gwqa_2_ok) (good_cons (good_of follows (known_no) Gwqa_3_ok) (good_cons (good_of follows (known_no) Gwqa_4_ok) (good_cons (good_of follows (known_no) Gwqa_5_ok) (good_cons (good_of follows (known_no) Gwqa_6_ok) (good_cons (good_of follows (known_no) Gwqa_7_ok) (good_cons (good_of follows (known_no) Gwqa_8_ok) (good_cons (good_of follows (known_no) Gwqa_9_ok) (good_cons (good_of follows (known_no) Gwqa_10_ok) (good_cons (good_of follows (known_no) Gwqa_11_ok) (good_cons (good_of follows (known_no) Gwqa_12_ok) (good_cons (good_of follows (known_no) Gwqa_13_ok) (good_cons (good_of follows (known_no) Gwqa_14_ok) (good_cons (good_of follows (known_no) Gwqa_15_ok) (good_cons (good_of follows (known_no) Gwqa_16_ok) (good_cons (good_of follows (known_no) Gwqa_17_ok) (good_cons (good_of follows (known_no) Gwqa_18_ok) (good_cons (good_of follows (known_no) Gwqa_19_ok) (good_cons (good_of follows (known_no) Gwqa_20_ok) (good_cons (good_of follows (known_no) Gwqa_21_ok) (good_cons (good_of follows (known_no) Gwqa_22_ok) (good_cons (good_of follows (known_no) Gwqa_23_ok) (good_nil))))))))))))))))))))))))
end Go.Proofs.YtigdbaicoiepiaaGreatDoor.X
