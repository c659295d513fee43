/- NodeOrder: what the records do, run once. -/
import Derived.Test.YtigdbaicoiepiaaGreatDoorKmt
namespace Go.Proofs.YtigdbaicoiepiaaGreatDoor.X
open Go.RowKit S
noncomputable def Gnqa_e0 : Nat × AO := (21, r [i 1, i 1, i 0, i 0, l 22 0 1 INF, p 23 0, m0, m0, m0, l0, l0] 118)
noncomputable def Gnqa_e1 : Nat × AO := (22, R [i 0, i 4294967295, i 1, i 1] 39)
noncomputable def Gnqa_e2 : Nat × AO := (23, r [m0] 591)
noncomputable def Gnqa_e3 : Nat × AO := (21, r [i 1, i 1, i 1, i 0, l 22 0 1 INF, p 23 0, m0, m0, m0, l0, l0] 118)
noncomputable def Gnqa_0 : Seg := ⟨43, [p 21 0, .agg ⟨[i 1, i 1, i 0, ff, i 0, i 0, i 0, i 0, i 0, i 0, l0, s0, l0, i 0, i 0, i 0, i 0, l0]⟩], [Gnqa_e0, Gnqa_e1, Gnqa_e2], 24, i 0, [Gnqa_e3], 41⟩
theorem Gnqa_0_ok : segOk Tryz.prog 21 (Kno) 10000000 Gnqa_0 = true := by kernel_rfl
noncomputable def Gnqa_e4 : Nat × AO := (33, R (bz 2 0x0101) 5)
noncomputable def Gnqa_1 : Seg := ⟨44, [.agg ⟨[i 1, i 1, i 0, ff, i 0, i 0, i 0, i 0, i 0, i 0, l0, s0, l0, i 0, i 0, i 0, i 0, l0]⟩], [], 21, .tuple ⟨[l 33 0 2 INF, i 0]⟩, [Gnqa_e4], 36⟩
theorem Gnqa_1_ok : segOk Tryz.prog 21 (Kno) 10000000 Gnqa_1 = true := by kernel_rfl
noncomputable def Gnqa_e5 : Nat × AO := (21, r [i 1, i 1, i 1, i 1005, l 22 0 1 INF, p 23 0, m0, m0, m0, l0, l0] 118)
noncomputable def Gnqa_2 : Seg := ⟨43, [p 21 0, .agg ⟨[i 2, i 1005, i 0, ff, i 0, i 0, i 0, i 0, i 0, i 0, l0, s0, l0, i 0, i 0, i 0, i 0, l0]⟩], [Gnqa_e3, Gnqa_e1, Gnqa_e2], 24, i 0, [Gnqa_e5], 43⟩
theorem Gnqa_2_ok : segOk Tryz.prog 21 (Kno) 10000000 Gnqa_2 = true := by kernel_rfl
noncomputable def Gnqa_e6 : Nat × AO := (35, R (bz 3 0x07ed02) 5)
noncomputable def Gnqa_3 : Seg := ⟨44, [.agg ⟨[i 2, i 1005, i 0, ff, i 0, i 0, i 0, i 0, i 0, i 0, l0, s0, l0, i 0, i 0, i 0, i 0, l0]⟩], [], 21, .tuple ⟨[l 35 0 3 INF, i 0]⟩, [Gnqa_e6], 38⟩
theorem Gnqa_3_ok : segOk Tryz.prog 21 (Kno) 10000000 Gnqa_3 = true := by kernel_rfl
noncomputable def Gnqa_e7 : Nat × AO := (21, r [i 1, i 1, i 1, i 1005, l 23 0 1 INF, p 24 0, m0, m0, m0, l0, l0] 118)
noncomputable def Gnqa_e8 : Nat × AO := (23, R [i 0, i 4294967295, i 1, i 1] 39)
noncomputable def Gnqa_e9 : Nat × AO := (24, r [m0] 591)
noncomputable def Gnqa_e10 : Nat × AO := (22, r [sb 1 0x61, i 0, l 25 0 1 1] 63)
noncomputable def Gnqa_e11 : Nat × AO := (25, r [sb 1 0x78] 9)
noncomputable def Gnqa_e12 : Nat × AO := (21, r [i 1, i 1, i 1, i 1005, l 23 0 1 INF, p 120 0, m0, m0, m0, l0, l 136 0 1 INF] 118)
noncomputable def Gnqa_e13 : Nat × AO := (120, r [m 130] 591)
noncomputable def Gnqa_e14 : Nat × AO := (130, .obj (.map ⟨[⟨sb 1 0x61, p 175 0, 0⟩]⟩ 1))
noncomputable def Gnqa_e15 : Nat × AO := (175, r [l 176 0 1 INF, m 174] 367)
noncomputable def Gnqa_e16 : Nat × AO := (176, R [sb 1 0x61, i 1, sb 1 0x78, i 5, i 0, i 1, i 0] 161)
noncomputable def Gnqa_e17 : Nat × AO := (174, .obj (.map ⟨[]⟩ 0))
noncomputable def Gnqa_e18 : Nat × AO := (136, R [sb 1 0x61, i 1, sb 1 0x78, i 5, i 0, i 1, i 0] 161)
noncomputable def Gnqa_4 : Seg := ⟨43, [p 21 0, .agg ⟨[i 3, i 0, i 0, ff, i 5, i 0, i 1, i 0, i 0, i 0, l0, s0, l 22 0 1 1, i 0, i 0, i 0, i 0, l0]⟩], [Gnqa_e7, Gnqa_e8, Gnqa_e9, Gnqa_e10, Gnqa_e11], 26, i 0, [Gnqa_e12, Gnqa_e13, Gnqa_e14, Gnqa_e15, Gnqa_e16, Gnqa_e17, Gnqa_e18], 178⟩
theorem Gnqa_4_ok : segOk Tryz.prog 21 (Kno) 10000000 Gnqa_4 = true := by kernel_rfl
noncomputable def Gnqa_e19 : Nat × AO := (21, r [sb 1 0x61, i 0, l 22 0 1 1] 63)
noncomputable def Gnqa_e20 : Nat × AO := (22, r [sb 1 0x78] 9)
noncomputable def Gnqa_e21 : Nat × AO := (81, R (bz 12 0x010005780101006101010003) 5)
noncomputable def Gnqa_5 : Seg := ⟨44, [.agg ⟨[i 3, i 0, i 0, ff, i 5, i 0, i 1, i 0, i 0, i 0, l0, s0, l 21 0 1 1, i 0, i 0, i 0, i 0, l0]⟩], [Gnqa_e19, Gnqa_e20], 23, .tuple ⟨[l 81 0 12 INF, i 0]⟩, [Gnqa_e21], 84⟩
theorem Gnqa_5_ok : segOk Tryz.prog 21 (Kno) 10000000 Gnqa_5 = true := by kernel_rfl
noncomputable def Gnqa_e22 : Nat × AO := (21, r [i 1, i 1, i 1, i 0, l 22 0 1 INF, l0, l0, l0, l0, l0, l0] 220)
noncomputable def Gnqa_e23 : Nat × AO := (21, r [i 1, i 1, i 1, i 1005, l 22 0 1 INF, l0, l0, l0, l0, l0, l0] 220)
noncomputable def Gnqa_6 : Seg := ⟨302, [p 21 0, .agg ⟨[i 2, i 1005, i 0, ff, i 0, i 0, i 0, i 0, i 0, i 0, l0, s0, l0, i 0, i 0, i 0, i 0, l0]⟩], [Gnqa_e22, Gnqa_e1], 23, i 0, [Gnqa_e23], 34⟩
theorem Gnqa_6_ok : segOk Tryz.prog 21 (Kno) 10000000 Gnqa_6 = true := by kernel_rfl
noncomputable def Gnqa_e24 : Nat × AO := (21, r [i 1, i 1, i 1, i 1005, l 23 0 1 INF, l0, l0, l0, l0, l0, l0] 220)
noncomputable def Gnqa_e25 : Nat × AO := (22, r [sb 1 0x61, i 0, l 24 0 1 1] 63)
noncomputable def Gnqa_e26 : Nat × AO := (24, r [sb 1 0x78] 9)
noncomputable def Gnqa_e27 : Nat × AO := (21, r [i 1, i 1, i 1, i 1005, l 23 0 1 INF, l 117 0 1 INF, l0, l0, l0, l0, l 119 0 1 INF] 220)
noncomputable def Gnqa_e28 : Nat × AO := (117, R [sb 1 0x61, l 112 0 1 INF, l0] 394)
noncomputable def Gnqa_e29 : Nat × AO := (112, R [sb 1 0x61, i 1, sb 1 0x78, i 5, i 0, i 1, i 0] 161)
noncomputable def Gnqa_e30 : Nat × AO := (119, R [sb 1 0x61, i 1, sb 1 0x78, i 5, i 0, i 1, i 0] 161)
noncomputable def Gnqa_7 : Seg := ⟨302, [p 21 0, .agg ⟨[i 3, i 0, i 0, ff, i 5, i 0, i 1, i 0, i 0, i 0, l0, s0, l 22 0 1 1, i 0, i 0, i 0, i 0, l0]⟩], [Gnqa_e24, Gnqa_e8, Gnqa_e25, Gnqa_e26], 25, i 0, [Gnqa_e27, Gnqa_e28, Gnqa_e29, Gnqa_e30], 120⟩
theorem Gnqa_7_ok : segOk Tryz.prog 21 (Kno) 10000000 Gnqa_7 = true := by kernel_rfl
noncomputable def Gnqa_e31 : Nat × AO := (21, r [i 1, i 1, i 1, i 1005, l 23 0 1 INF, p 24 0, m0, m0, m0, l0, l 25 0 1 INF] 118)
noncomputable def Gnqa_e32 : Nat × AO := (24, r [m 26] 591)
noncomputable def Gnqa_e33 : Nat × AO := (26, .obj (.map ⟨[⟨sb 1 0x61, p 27 0, 0⟩]⟩ 1))
noncomputable def Gnqa_e34 : Nat × AO := (27, r [l 28 0 1 INF, m 29] 367)
noncomputable def Gnqa_e35 : Nat × AO := (28, R [sb 1 0x61, i 1, sb 1 0x78, i 5, i 0, i 1, i 0] 161)
noncomputable def Gnqa_e36 : Nat × AO := (29, .obj (.map ⟨[]⟩ 0))
noncomputable def Gnqa_e37 : Nat × AO := (25, R [sb 1 0x61, i 1, sb 1 0x78, i 5, i 0, i 1, i 0] 161)
noncomputable def Gnqa_e38 : Nat × AO := (22, r [sb 1 0x61, i 1, l 30 0 1 1] 63)
noncomputable def Gnqa_e39 : Nat × AO := (30, r [sb 1 0x78] 9)
noncomputable def Gnqa_e40 : Nat × AO := (21, r [i 1, i 1, i 1, i 1005, l 23 0 1 INF, p 125 0, m0, m0, m0, l0, l 212 0 2 INF] 118)
noncomputable def Gnqa_e41 : Nat × AO := (125, r [m 201] 591)
noncomputable def Gnqa_e42 : Nat × AO := (201, .obj (.map ⟨[⟨sb 1 0x61, p 206 0, 0⟩]⟩ 1))
noncomputable def Gnqa_e43 : Nat × AO := (206, r [l 250 0 2 INF, m 205] 367)
noncomputable def Gnqa_e44 : Nat × AO := (250, R [sb 1 0x61, i 1, sb 1 0x78, i 5, i 0, i 1, i 0, sb 1 0x61, i 2, sb 1 0x78, i 5, i 1, i 1, i 0] 161)
noncomputable def Gnqa_e45 : Nat × AO := (205, .obj (.map ⟨[]⟩ 0))
noncomputable def Gnqa_e46 : Nat × AO := (212, R [sb 1 0x61, i 1, sb 1 0x78, i 5, i 0, i 1, i 0, sb 1 0x61, i 2, sb 1 0x78, i 5, i 1, i 1, i 0] 161)
noncomputable def Gnqa_8 : Seg := ⟨43, [p 21 0, .agg ⟨[i 3, i 0, i 0, ff, i 5, i 1, i 1, i 0, i 0, i 0, l0, s0, l 22 0 1 1, i 0, i 0, i 0, i 0, l0]⟩], [Gnqa_e31, Gnqa_e8, Gnqa_e32, Gnqa_e33, Gnqa_e34, Gnqa_e35, Gnqa_e36, Gnqa_e37, Gnqa_e38, Gnqa_e39], 31, i 0, [Gnqa_e40, Gnqa_e41, Gnqa_e42, Gnqa_e43, Gnqa_e44, Gnqa_e45, Gnqa_e46], 252⟩
theorem Gnqa_8_ok : segOk Tryz.prog 21 (Kno) 10000000 Gnqa_8 = true := by kernel_rfl
noncomputable def Gnqa_e47 : Nat × AO := (21, r [sb 1 0x61, i 1, l 22 0 1 1] 63)
noncomputable def Gnqa_e48 : Nat × AO := (81, R (bz 12 0x010105780101026101010003) 5)
noncomputable def Gnqa_9 : Seg := ⟨44, [.agg ⟨[i 3, i 0, i 0, ff, i 5, i 1, i 1, i 0, i 0, i 0, l0, s0, l 21 0 1 1, i 0, i 0, i 0, i 0, l0]⟩], [Gnqa_e47, Gnqa_e20], 23, .tuple ⟨[l 81 0 12 INF, i 0]⟩, [Gnqa_e48], 84⟩
theorem Gnqa_9_ok : segOk Tryz.prog 21 (Kno) 10000000 Gnqa_9 = true := by kernel_rfl
noncomputable def Gnqa_e49 : Nat × AO := (21, r [i 1, i 1, i 1, i 1005, l 23 0 1 INF, l 24 0 1 INF, l0, l0, l0, l0, l 25 0 1 INF] 220)
noncomputable def Gnqa_e50 : Nat × AO := (24, R [sb 1 0x61, l 26 0 1 INF, l0] 394)
noncomputable def Gnqa_e51 : Nat × AO := (26, R [sb 1 0x61, i 1, sb 1 0x78, i 5, i 0, i 1, i 0] 161)
noncomputable def Gnqa_e52 : Nat × AO := (22, r [sb 1 0x61, i 1, l 27 0 1 1] 63)
noncomputable def Gnqa_e53 : Nat × AO := (27, r [sb 1 0x78] 9)
noncomputable def Gnqa_e54 : Nat × AO := (21, r [i 1, i 1, i 1, i 1005, l 23 0 1 INF, l 121 0 1 INF, l0, l0, l0, l0, l 124 0 2 INF] 220)
noncomputable def Gnqa_e55 : Nat × AO := (121, R [sb 1 0x61, l 116 0 2 INF, l0] 394)
noncomputable def Gnqa_e56 : Nat × AO := (116, R [sb 1 0x61, i 1, sb 1 0x78, i 5, i 0, i 1, i 0, sb 1 0x61, i 2, sb 1 0x78, i 5, i 1, i 1, i 0] 161)
noncomputable def Gnqa_e57 : Nat × AO := (124, R [sb 1 0x61, i 1, sb 1 0x78, i 5, i 0, i 1, i 0, sb 1 0x61, i 2, sb 1 0x78, i 5, i 1, i 1, i 0] 161)
noncomputable def Gnqa_10 : Seg := ⟨302, [p 21 0, .agg ⟨[i 3, i 0, i 0, ff, i 5, i 1, i 1, i 0, i 0, i 0, l0, s0, l 22 0 1 1, i 0, i 0, i 0, i 0, l0]⟩], [Gnqa_e49, Gnqa_e8, Gnqa_e50, Gnqa_e51, Gnqa_e37, Gnqa_e52, Gnqa_e53], 28, i 0, [Gnqa_e54, Gnqa_e55, Gnqa_e56, Gnqa_e57], 125⟩
theorem Gnqa_10_ok : segOk Tryz.prog 21 (Kno) 10000000 Gnqa_10 = true := by kernel_rfl
noncomputable def Gnqa_e58 : Nat × AO := (21, r [i 1, i 1, i 1, i 1005, l 23 0 1 INF, p 24 0, m0, m0, m0, l0, l 25 0 2 INF] 118)
noncomputable def Gnqa_e59 : Nat × AO := (27, r [l 28 0 2 INF, m 29] 367)
noncomputable def Gnqa_e60 : Nat × AO := (28, R [sb 1 0x61, i 1, sb 1 0x78, i 5, i 0, i 1, i 0, sb 1 0x61, i 2, sb 1 0x78, i 5, i 1, i 1, i 0] 161)
noncomputable def Gnqa_e61 : Nat × AO := (25, R [sb 1 0x61, i 1, sb 1 0x78, i 5, i 0, i 1, i 0, sb 1 0x61, i 2, sb 1 0x78, i 5, i 1, i 1, i 0] 161)
noncomputable def Gnqa_e62 : Nat × AO := (22, r [sb 1 0x61, i 2, l 30 0 1 1] 63)
noncomputable def Gnqa_e63 : Nat × AO := (21, r [i 1, i 1, i 1, i 1005, l 23 0 1 INF, p 125 0, m0, m0, m0, l0, l 248 0 3 INF] 118)
noncomputable def Gnqa_e64 : Nat × AO := (125, r [m 237] 591)
noncomputable def Gnqa_e65 : Nat × AO := (237, .obj (.map ⟨[⟨sb 1 0x61, p 242 0, 0⟩]⟩ 1))
noncomputable def Gnqa_e66 : Nat × AO := (242, r [l 286 0 3 INF, m 241] 367)
noncomputable def Gnqa_e67 : Nat × AO := (286, R [sb 1 0x61, i 1, sb 1 0x78, i 5, i 0, i 1, i 0, sb 1 0x61, i 2, sb 1 0x78, i 5, i 1, i 1, i 0, sb 1 0x61, i 3, sb 1 0x78, i 5, i 2, i 1, i 0] 161)
noncomputable def Gnqa_e68 : Nat × AO := (241, .obj (.map ⟨[]⟩ 0))
noncomputable def Gnqa_e69 : Nat × AO := (248, R [sb 1 0x61, i 1, sb 1 0x78, i 5, i 0, i 1, i 0, sb 1 0x61, i 2, sb 1 0x78, i 5, i 1, i 1, i 0, sb 1 0x61, i 3, sb 1 0x78, i 5, i 2, i 1, i 0] 161)
noncomputable def Gnqa_11 : Seg := ⟨43, [p 21 0, .agg ⟨[i 3, i 0, i 0, ff, i 5, i 2, i 1, i 0, i 0, i 0, l0, s0, l 22 0 1 1, i 0, i 0, i 0, i 0, l0]⟩], [Gnqa_e58, Gnqa_e8, Gnqa_e32, Gnqa_e33, Gnqa_e59, Gnqa_e60, Gnqa_e36, Gnqa_e61, Gnqa_e62, Gnqa_e39], 31, i 0, [Gnqa_e63, Gnqa_e64, Gnqa_e65, Gnqa_e66, Gnqa_e67, Gnqa_e68, Gnqa_e69], 288⟩
theorem Gnqa_11_ok : segOk Tryz.prog 21 (Kno) 10000000 Gnqa_11 = true := by kernel_rfl
noncomputable def Gnqa_e70 : Nat × AO := (21, r [sb 1 0x61, i 2, l 22 0 1 1] 63)
noncomputable def Gnqa_e71 : Nat × AO := (81, R (bz 12 0x010205780101046101010003) 5)
noncomputable def Gnqa_12 : Seg := ⟨44, [.agg ⟨[i 3, i 0, i 0, ff, i 5, i 2, i 1, i 0, i 0, i 0, l0, s0, l 21 0 1 1, i 0, i 0, i 0, i 0, l0]⟩], [Gnqa_e70, Gnqa_e20], 23, .tuple ⟨[l 81 0 12 INF, i 0]⟩, [Gnqa_e71], 84⟩
theorem Gnqa_12_ok : segOk Tryz.prog 21 (Kno) 10000000 Gnqa_12 = true := by kernel_rfl
noncomputable def Gnqa_e72 : Nat × AO := (21, r [i 1, i 1, i 1, i 1005, l 23 0 1 INF, l 24 0 1 INF, l0, l0, l0, l0, l 25 0 2 INF] 220)
noncomputable def Gnqa_e73 : Nat × AO := (24, R [sb 1 0x61, l 26 0 2 INF, l0] 394)
noncomputable def Gnqa_e74 : Nat × AO := (26, R [sb 1 0x61, i 1, sb 1 0x78, i 5, i 0, i 1, i 0, sb 1 0x61, i 2, sb 1 0x78, i 5, i 1, i 1, i 0] 161)
noncomputable def Gnqa_e75 : Nat × AO := (22, r [sb 1 0x61, i 2, l 27 0 1 1] 63)
noncomputable def Gnqa_e76 : Nat × AO := (21, r [i 1, i 1, i 1, i 1005, l 23 0 1 INF, l 121 0 1 INF, l0, l0, l0, l0, l 124 0 3 INF] 220)
noncomputable def Gnqa_e77 : Nat × AO := (121, R [sb 1 0x61, l 116 0 3 INF, l0] 394)
noncomputable def Gnqa_e78 : Nat × AO := (116, R [sb 1 0x61, i 1, sb 1 0x78, i 5, i 0, i 1, i 0, sb 1 0x61, i 2, sb 1 0x78, i 5, i 1, i 1, i 0, sb 1 0x61, i 3, sb 1 0x78, i 5, i 2, i 1, i 0] 161)
noncomputable def Gnqa_e79 : Nat × AO := (124, R [sb 1 0x61, i 1, sb 1 0x78, i 5, i 0, i 1, i 0, sb 1 0x61, i 2, sb 1 0x78, i 5, i 1, i 1, i 0, sb 1 0x61, i 3, sb 1 0x78, i 5, i 2, i 1, i 0] 161)
noncomputable def Gnqa_13 : Seg := ⟨302, [p 21 0, .agg ⟨[i 3, i 0, i 0, ff, i 5, i 2, i 1, i 0, i 0, i 0, l0, s0, l 22 0 1 1, i 0, i 0, i 0, i 0, l0]⟩], [Gnqa_e72, Gnqa_e8, Gnqa_e73, Gnqa_e74, Gnqa_e61, Gnqa_e75, Gnqa_e53], 28, i 0, [Gnqa_e76, Gnqa_e77, Gnqa_e78, Gnqa_e79], 125⟩
theorem Gnqa_13_ok : segOk Tryz.prog 21 (Kno) 10000000 Gnqa_13 = true := by kernel_rfl
noncomputable def Gnqa_e80 : Nat × AO := (21, r [i 1, i 1, i 1, i 1005, l 23 0 1 INF, p 24 0, m0, m0, m0, l0, l 25 0 3 INF] 118)
noncomputable def Gnqa_e81 : Nat × AO := (27, r [l 28 0 3 INF, m 29] 367)
noncomputable def Gnqa_e82 : Nat × AO := (28, R [sb 1 0x61, i 1, sb 1 0x78, i 5, i 0, i 1, i 0, sb 1 0x61, i 2, sb 1 0x78, i 5, i 1, i 1, i 0, sb 1 0x61, i 3, sb 1 0x78, i 5, i 2, i 1, i 0] 161)
noncomputable def Gnqa_e83 : Nat × AO := (25, R [sb 1 0x61, i 1, sb 1 0x78, i 5, i 0, i 1, i 0, sb 1 0x61, i 2, sb 1 0x78, i 5, i 1, i 1, i 0, sb 1 0x61, i 3, sb 1 0x78, i 5, i 2, i 1, i 0] 161)
noncomputable def Gnqa_e84 : Nat × AO := (22, r [sb 1 0x61, i 3, l 30 0 1 1] 63)
noncomputable def Gnqa_e85 : Nat × AO := (21, r [i 1, i 1, i 1, i 1005, l 23 0 1 INF, p 125 0, m0, m0, m0, l0, l 284 0 4 INF] 118)
noncomputable def Gnqa_e86 : Nat × AO := (125, r [m 273] 591)
noncomputable def Gnqa_e87 : Nat × AO := (273, .obj (.map ⟨[⟨sb 1 0x61, p 278 0, 0⟩]⟩ 1))
noncomputable def Gnqa_e88 : Nat × AO := (278, r [l 322 0 4 INF, m 277] 367)
noncomputable def Gnqa_e89 : Nat × AO := (322, R [sb 1 0x61, i 1, sb 1 0x78, i 5, i 0, i 1, i 0, sb 1 0x61, i 2, sb 1 0x78, i 5, i 1, i 1, i 0, sb 1 0x61, i 3, sb 1 0x78, i 5, i 2, i 1, i 0, sb 1 0x61, i 4, sb 1 0x78, i 5, i 3, i 1, i 0] 161)
noncomputable def Gnqa_e90 : Nat × AO := (277, .obj (.map ⟨[]⟩ 0))
noncomputable def Gnqa_e91 : Nat × AO := (284, R [sb 1 0x61, i 1, sb 1 0x78, i 5, i 0, i 1, i 0, sb 1 0x61, i 2, sb 1 0x78, i 5, i 1, i 1, i 0, sb 1 0x61, i 3, sb 1 0x78, i 5, i 2, i 1, i 0, sb 1 0x61, i 4, sb 1 0x78, i 5, i 3, i 1, i 0] 161)
noncomputable def Gnqa_14 : Seg := ⟨43, [p 21 0, .agg ⟨[i 3, i 0, i 0, ff, i 5, i 3, i 1, i 0, i 0, i 0, l0, s0, l 22 0 1 1, i 0, i 0, i 0, i 0, l0]⟩], [Gnqa_e80, Gnqa_e8, Gnqa_e32, Gnqa_e33, Gnqa_e81, Gnqa_e82, Gnqa_e36, Gnqa_e83, Gnqa_e84, Gnqa_e39], 31, i 0, [Gnqa_e85, Gnqa_e86, Gnqa_e87, Gnqa_e88, Gnqa_e89, Gnqa_e90, Gnqa_e91], 324⟩
theorem Gnqa_14_ok : segOk Tryz.prog 21 (Kno) 10000000 Gnqa_14 = true := by kernel_rfl
noncomputable def Gnqa_e92 : Nat × AO := (21, r [sb 1 0x61, i 3, l 22 0 1 1] 63)
noncomputable def Gnqa_e93 : Nat × AO := (81, R (bz 12 0x010305780101066101010003) 5)
noncomputable def Gnqa_15 : Seg := ⟨44, [.agg ⟨[i 3, i 0, i 0, ff, i 5, i 3, i 1, i 0, i 0, i 0, l0, s0, l 21 0 1 1, i 0, i 0, i 0, i 0, l0]⟩], [Gnqa_e92, Gnqa_e20], 23, .tuple ⟨[l 81 0 12 INF, i 0]⟩, [Gnqa_e93], 84⟩
theorem Gnqa_15_ok : segOk Tryz.prog 21 (Kno) 10000000 Gnqa_15 = true := by kernel_rfl
noncomputable def Gnqa_e94 : Nat × AO := (21, r [i 1, i 1, i 1, i 1005, l 23 0 1 INF, l 24 0 1 INF, l0, l0, l0, l0, l 25 0 3 INF] 220)
noncomputable def Gnqa_e95 : Nat × AO := (24, R [sb 1 0x61, l 26 0 3 INF, l0] 394)
noncomputable def Gnqa_e96 : Nat × AO := (26, R [sb 1 0x61, i 1, sb 1 0x78, i 5, i 0, i 1, i 0, sb 1 0x61, i 2, sb 1 0x78, i 5, i 1, i 1, i 0, sb 1 0x61, i 3, sb 1 0x78, i 5, i 2, i 1, i 0] 161)
noncomputable def Gnqa_e97 : Nat × AO := (22, r [sb 1 0x61, i 3, l 27 0 1 1] 63)
noncomputable def Gnqa_e98 : Nat × AO := (21, r [i 1, i 1, i 1, i 1005, l 23 0 1 INF, l 121 0 1 INF, l0, l0, l0, l0, l 124 0 4 INF] 220)
noncomputable def Gnqa_e99 : Nat × AO := (121, R [sb 1 0x61, l 116 0 4 INF, l0] 394)
noncomputable def Gnqa_e100 : Nat × AO := (116, R [sb 1 0x61, i 1, sb 1 0x78, i 5, i 0, i 1, i 0, sb 1 0x61, i 2, sb 1 0x78, i 5, i 1, i 1, i 0, sb 1 0x61, i 3, sb 1 0x78, i 5, i 2, i 1, i 0, sb 1 0x61, i 4, sb 1 0x78, i 5, i 3, i 1, i 0] 161)
noncomputable def Gnqa_e101 : Nat × AO := (124, R [sb 1 0x61, i 1, sb 1 0x78, i 5, i 0, i 1, i 0, sb 1 0x61, i 2, sb 1 0x78, i 5, i 1, i 1, i 0, sb 1 0x61, i 3, sb 1 0x78, i 5, i 2, i 1, i 0, sb 1 0x61, i 4, sb 1 0x78, i 5, i 3, i 1, i 0] 161)
noncomputable def Gnqa_16 : Seg := ⟨302, [p 21 0, .agg ⟨[i 3, i 0, i 0, ff, i 5, i 3, i 1, i 0, i 0, i 0, l0, s0, l 22 0 1 1, i 0, i 0, i 0, i 0, l0]⟩], [Gnqa_e94, Gnqa_e8, Gnqa_e95, Gnqa_e96, Gnqa_e83, Gnqa_e97, Gnqa_e53], 28, i 0, [Gnqa_e98, Gnqa_e99, Gnqa_e100, Gnqa_e101], 125⟩
theorem Gnqa_16_ok : segOk Tryz.prog 21 (Kno) 10000000 Gnqa_16 = true := by kernel_rfl
noncomputable def Gnqa_e102 : Nat × AO := (21, r [i 1, i 1, i 1, i 1005, l 23 0 1 INF, p 24 0, m0, m0, m0, l0, l 25 0 4 INF] 118)
noncomputable def Gnqa_e103 : Nat × AO := (27, r [l 28 0 4 INF, m 29] 367)
noncomputable def Gnqa_e104 : Nat × AO := (28, R [sb 1 0x61, i 1, sb 1 0x78, i 5, i 0, i 1, i 0, sb 1 0x61, i 2, sb 1 0x78, i 5, i 1, i 1, i 0, sb 1 0x61, i 3, sb 1 0x78, i 5, i 2, i 1, i 0, sb 1 0x61, i 4, sb 1 0x78, i 5, i 3, i 1, i 0] 161)
noncomputable def Gnqa_e105 : Nat × AO := (25, R [sb 1 0x61, i 1, sb 1 0x78, i 5, i 0, i 1, i 0, sb 1 0x61, i 2, sb 1 0x78, i 5, i 1, i 1, i 0, sb 1 0x61, i 3, sb 1 0x78, i 5, i 2, i 1, i 0, sb 1 0x61, i 4, sb 1 0x78, i 5, i 3, i 1, i 0] 161)
noncomputable def Gnqa_e106 : Nat × AO := (22, r [sb 1 0x61, i 4, l 30 0 1 1] 63)
noncomputable def Gnqa_e107 : Nat × AO := (21, r [i 1, i 1, i 1, i 1005, l 23 0 1 INF, p 125 0, m0, m0, m0, l0, l 320 0 5 INF] 118)
noncomputable def Gnqa_e108 : Nat × AO := (125, r [m 309] 591)
noncomputable def Gnqa_e109 : Nat × AO := (309, .obj (.map ⟨[⟨sb 1 0x61, p 314 0, 0⟩]⟩ 1))
noncomputable def Gnqa_e110 : Nat × AO := (314, r [l 358 0 5 INF, m 313] 367)
noncomputable def Gnqa_e111 : Nat × AO := (358, R [sb 1 0x61, i 1, sb 1 0x78, i 5, i 0, i 1, i 0, sb 1 0x61, i 2, sb 1 0x78, i 5, i 1, i 1, i 0, sb 1 0x61, i 3, sb 1 0x78, i 5, i 2, i 1, i 0, sb 1 0x61, i 4, sb 1 0x78, i 5, i 3, i 1, i 0, sb 1 0x61, i 5, sb 1 0x78, i 5, i 4, i 1, i 0] 161)
noncomputable def Gnqa_e112 : Nat × AO := (313, .obj (.map ⟨[]⟩ 0))
noncomputable def Gnqa_e113 : Nat × AO := (320, R [sb 1 0x61, i 1, sb 1 0x78, i 5, i 0, i 1, i 0, sb 1 0x61, i 2, sb 1 0x78, i 5, i 1, i 1, i 0, sb 1 0x61, i 3, sb 1 0x78, i 5, i 2, i 1, i 0, sb 1 0x61, i 4, sb 1 0x78, i 5, i 3, i 1, i 0, sb 1 0x61, i 5, sb 1 0x78, i 5, i 4, i 1, i 0] 161)
noncomputable def Gnqa_17 : Seg := ⟨43, [p 21 0, .agg ⟨[i 3, i 0, i 0, ff, i 5, i 4, i 1, i 0, i 0, i 0, l0, s0, l 22 0 1 1, i 0, i 0, i 0, i 0, l0]⟩], [Gnqa_e102, Gnqa_e8, Gnqa_e32, Gnqa_e33, Gnqa_e103, Gnqa_e104, Gnqa_e36, Gnqa_e105, Gnqa_e106, Gnqa_e39], 31, i 0, [Gnqa_e107, Gnqa_e108, Gnqa_e109, Gnqa_e110, Gnqa_e111, Gnqa_e112, Gnqa_e113], 360⟩
theorem Gnqa_17_ok : segOk Tryz.prog 21 (Kno) 10000000 Gnqa_17 = true := by kernel_rfl
noncomputable def Gnqa_e114 : Nat × AO := (21, r [sb 1 0x61, i 4, l 22 0 1 1] 63)
noncomputable def Gnqa_e115 : Nat × AO := (81, R (bz 12 0x010405780101086101010003) 5)
noncomputable def Gnqa_18 : Seg := ⟨44, [.agg ⟨[i 3, i 0, i 0, ff, i 5, i 4, i 1, i 0, i 0, i 0, l0, s0, l 21 0 1 1, i 0, i 0, i 0, i 0, l0]⟩], [Gnqa_e114, Gnqa_e20], 23, .tuple ⟨[l 81 0 12 INF, i 0]⟩, [Gnqa_e115], 84⟩
theorem Gnqa_18_ok : segOk Tryz.prog 21 (Kno) 10000000 Gnqa_18 = true := by kernel_rfl
noncomputable def Gnqa_e116 : Nat × AO := (21, r [i 1, i 1, i 1, i 1005, l 23 0 1 INF, l 24 0 1 INF, l0, l0, l0, l0, l 25 0 4 INF] 220)
noncomputable def Gnqa_e117 : Nat × AO := (24, R [sb 1 0x61, l 26 0 4 INF, l0] 394)
noncomputable def Gnqa_e118 : Nat × AO := (26, R [sb 1 0x61, i 1, sb 1 0x78, i 5, i 0, i 1, i 0, sb 1 0x61, i 2, sb 1 0x78, i 5, i 1, i 1, i 0, sb 1 0x61, i 3, sb 1 0x78, i 5, i 2, i 1, i 0, sb 1 0x61, i 4, sb 1 0x78, i 5, i 3, i 1, i 0] 161)
noncomputable def Gnqa_e119 : Nat × AO := (22, r [sb 1 0x61, i 4, l 27 0 1 1] 63)
noncomputable def Gnqa_e120 : Nat × AO := (21, r [i 1, i 1, i 1, i 1005, l 23 0 1 INF, l 121 0 1 INF, l0, l0, l0, l0, l 124 0 5 INF] 220)
noncomputable def Gnqa_e121 : Nat × AO := (121, R [sb 1 0x61, l 116 0 5 INF, l0] 394)
noncomputable def Gnqa_e122 : Nat × AO := (116, R [sb 1 0x61, i 1, sb 1 0x78, i 5, i 0, i 1, i 0, sb 1 0x61, i 2, sb 1 0x78, i 5, i 1, i 1, i 0, sb 1 0x61, i 3, sb 1 0x78, i 5, i 2, i 1, i 0, sb 1 0x61, i 4, sb 1 0x78, i 5, i 3, i 1, i 0, sb 1 0x61, i 5, sb 1 0x78, i 5, i 4, i 1, i 0] 161)
noncomputable def Gnqa_e123 : Nat × AO := (124, R [sb 1 0x61, i 1, sb 1 0x78, i 5, i 0, i 1, i 0, sb 1 0x61, i 2, sb 1 0x78, i 5, i 1, i 1, i 0, sb 1 0x61, i 3, sb 1 0x78, i 5, i 2, i 1, i 0, sb 1 0x61, i 4, sb 1 0x78, i 5, i 3, i 1, i 0, sb 1 0x61, i 5, sb 1 0x78, i 5, i 4, i 1, i 0] 161)
noncomputable def Gnqa_19 : Seg := ⟨302, [p 21 0, .agg ⟨[i 3, i 0, i 0, ff, i 5, i 4, i 1, i 0, i 0, i 0, l0, s0, l 22 0 1 1, i 0, i 0, i 0, i 0, l0]⟩], [Gnqa_e116, Gnqa_e8, Gnqa_e117, Gnqa_e118, Gnqa_e105, Gnqa_e119, Gnqa_e53], 28, i 0, [Gnqa_e120, Gnqa_e121, Gnqa_e122, Gnqa_e123], 125⟩
theorem Gnqa_19_ok : segOk Tryz.prog 21 (Kno) 10000000 Gnqa_19 = true := by kernel_rfl
noncomputable def Gnqa_e124 : Nat × AO := (21, r [i 1, i 1, i 1, i 1005, l 23 0 1 INF, p 24 0, m0, m0, m0, l0, l 25 0 5 INF] 118)
noncomputable def Gnqa_e125 : Nat × AO := (27, r [l 28 0 5 INF, m 29] 367)
noncomputable def Gnqa_e126 : Nat × AO := (28, R [sb 1 0x61, i 1, sb 1 0x78, i 5, i 0, i 1, i 0, sb 1 0x61, i 2, sb 1 0x78, i 5, i 1, i 1, i 0, sb 1 0x61, i 3, sb 1 0x78, i 5, i 2, i 1, i 0, sb 1 0x61, i 4, sb 1 0x78, i 5, i 3, i 1, i 0, sb 1 0x61, i 5, sb 1 0x78, i 5, i 4, i 1, i 0] 161)
noncomputable def Gnqa_e127 : Nat × AO := (25, R [sb 1 0x61, i 1, sb 1 0x78, i 5, i 0, i 1, i 0, sb 1 0x61, i 2, sb 1 0x78, i 5, i 1, i 1, i 0, sb 1 0x61, i 3, sb 1 0x78, i 5, i 2, i 1, i 0, sb 1 0x61, i 4, sb 1 0x78, i 5, i 3, i 1, i 0, sb 1 0x61, i 5, sb 1 0x78, i 5, i 4, i 1, i 0] 161)
noncomputable def Gnqa_e128 : Nat × AO := (22, r [sb 1 0x61, i 5, l 30 0 1 1] 63)
noncomputable def Gnqa_e129 : Nat × AO := (21, r [i 1, i 1, i 1, i 1005, l 23 0 1 INF, p 125 0, m0, m0, m0, l0, l 356 0 6 INF] 118)
noncomputable def Gnqa_e130 : Nat × AO := (125, r [m 345] 591)
noncomputable def Gnqa_e131 : Nat × AO := (345, .obj (.map ⟨[⟨sb 1 0x61, p 350 0, 0⟩]⟩ 1))
noncomputable def Gnqa_e132 : Nat × AO := (350, r [l 394 0 6 INF, m 349] 367)
noncomputable def Gnqa_e133 : Nat × AO := (394, R [sb 1 0x61, i 1, sb 1 0x78, i 5, i 0, i 1, i 0, sb 1 0x61, i 2, sb 1 0x78, i 5, i 1, i 1, i 0, sb 1 0x61, i 3, sb 1 0x78, i 5, i 2, i 1, i 0, sb 1 0x61, i 4, sb 1 0x78, i 5, i 3, i 1, i 0, sb 1 0x61, i 5, sb 1 0x78, i 5, i 4, i 1, i 0, sb 1 0x61, i 6, sb 1 0x78, i 5, i 5, i 1, i 0] 161)
noncomputable def Gnqa_e134 : Nat × AO := (349, .obj (.map ⟨[]⟩ 0))
noncomputable def Gnqa_e135 : Nat × AO := (356, R [sb 1 0x61, i 1, sb 1 0x78, i 5, i 0, i 1, i 0, sb 1 0x61, i 2, sb 1 0x78, i 5, i 1, i 1, i 0, sb 1 0x61, i 3, sb 1 0x78, i 5, i 2, i 1, i 0, sb 1 0x61, i 4, sb 1 0x78, i 5, i 3, i 1, i 0, sb 1 0x61, i 5, sb 1 0x78, i 5, i 4, i 1, i 0, sb 1 0x61, i 6, sb 1 0x78, i 5, i 5, i 1, i 0] 161)
noncomputable def Gnqa_20 : Seg := ⟨43, [p 21 0, .agg ⟨[i 3, i 0, i 0, ff, i 5, i 5, i 1, i 0, i 0, i 0, l0, s0, l 22 0 1 1, i 0, i 0, i 0, i 0, l0]⟩], [Gnqa_e124, Gnqa_e8, Gnqa_e32, Gnqa_e33, Gnqa_e125, Gnqa_e126, Gnqa_e36, Gnqa_e127, Gnqa_e128, Gnqa_e39], 31, i 0, [Gnqa_e129, Gnqa_e130, Gnqa_e131, Gnqa_e132, Gnqa_e133, Gnqa_e134, Gnqa_e135], 396⟩
theorem Gnqa_20_ok : segOk Tryz.prog 21 (Kno) 10000000 Gnqa_20 = true := by kernel_rfl
noncomputable def Gnqa_e136 : Nat × AO := (21, r [sb 1 0x61, i 5, l 22 0 1 1] 63)
noncomputable def Gnqa_e137 : Nat × AO := (81, R (bz 12 0x0105057801010a6101010003) 5)
noncomputable def Gnqa_21 : Seg := ⟨44, [.agg ⟨[i 3, i 0, i 0, ff, i 5, i 5, i 1, i 0, i 0, i 0, l0, s0, l 21 0 1 1, i 0, i 0, i 0, i 0, l0]⟩], [Gnqa_e136, Gnqa_e20], 23, .tuple ⟨[l 81 0 12 INF, i 0]⟩, [Gnqa_e137], 84⟩
theorem Gnqa_21_ok : segOk Tryz.prog 21 (Kno) 10000000 Gnqa_21 = true := by kernel_rfl
noncomputable def Gnqa_e138 : Nat × AO := (21, r [i 1, i 1, i 1, i 1005, l 23 0 1 INF, l 24 0 1 INF, l0, l0, l0, l0, l 25 0 5 INF] 220)
noncomputable def Gnqa_e139 : Nat × AO := (24, R [sb 1 0x61, l 26 0 5 INF, l0] 394)
noncomputable def Gnqa_e140 : Nat × AO := (26, R [sb 1 0x61, i 1, sb 1 0x78, i 5, i 0, i 1, i 0, sb 1 0x61, i 2, sb 1 0x78, i 5, i 1, i 1, i 0, sb 1 0x61, i 3, sb 1 0x78, i 5, i 2, i 1, i 0, sb 1 0x61, i 4, sb 1 0x78, i 5, i 3, i 1, i 0, sb 1 0x61, i 5, sb 1 0x78, i 5, i 4, i 1, i 0] 161)
noncomputable def Gnqa_e141 : Nat × AO := (22, r [sb 1 0x61, i 5, l 27 0 1 1] 63)
noncomputable def Gnqa_e142 : Nat × AO := (21, r [i 1, i 1, i 1, i 1005, l 23 0 1 INF, l 121 0 1 INF, l0, l0, l0, l0, l 124 0 6 INF] 220)
noncomputable def Gnqa_e143 : Nat × AO := (121, R [sb 1 0x61, l 116 0 6 INF, l0] 394)
noncomputable def Gnqa_e144 : Nat × AO := (116, R [sb 1 0x61, i 1, sb 1 0x78, i 5, i 0, i 1, i 0, sb 1 0x61, i 2, sb 1 0x78, i 5, i 1, i 1, i 0, sb 1 0x61, i 3, sb 1 0x78, i 5, i 2, i 1, i 0, sb 1 0x61, i 4, sb 1 0x78, i 5, i 3, i 1, i 0, sb 1 0x61, i 5, sb 1 0x78, i 5, i 4, i 1, i 0, sb 1 0x61, i 6, sb 1 0x78, i 5, i 5, i 1, i 0] 161)
noncomputable def Gnqa_e145 : Nat × AO := (124, R [sb 1 0x61, i 1, sb 1 0x78, i 5, i 0, i 1, i 0, sb 1 0x61, i 2, sb 1 0x78, i 5, i 1, i 1, i 0, sb 1 0x61, i 3, sb 1 0x78, i 5, i 2, i 1, i 0, sb 1 0x61, i 4, sb 1 0x78, i 5, i 3, i 1, i 0, sb 1 0x61, i 5, sb 1 0x78, i 5, i 4, i 1, i 0, sb 1 0x61, i 6, sb 1 0x78, i 5, i 5, i 1, i 0] 161)
noncomputable def Gnqa_22 : Seg := ⟨302, [p 21 0, .agg ⟨[i 3, i 0, i 0, ff, i 5, i 5, i 1, i 0, i 0, i 0, l0, s0, l 22 0 1 1, i 0, i 0, i 0, i 0, l0]⟩], [Gnqa_e138, Gnqa_e8, Gnqa_e139, Gnqa_e140, Gnqa_e127, Gnqa_e141, Gnqa_e53], 28, i 0, [Gnqa_e142, Gnqa_e143, Gnqa_e144, Gnqa_e145], 125⟩
theorem Gnqa_22_ok : segOk Tryz.prog 21 (Kno) 10000000 Gnqa_22 = true := by kernel_rfl
noncomputable def Gnqa_e146 : Nat × AO := (21, r [i 1, i 1, i 1, i 1005, l 23 0 1 INF, p 24 0, m0, m0, m0, l0, l 25 0 6 INF] 118)
noncomputable def Gnqa_e147 : Nat × AO := (27, r [l 28 0 6 INF, m 29] 367)
noncomputable def Gnqa_e148 : Nat × AO := (28, R [sb 1 0x61, i 1, sb 1 0x78, i 5, i 0, i 1, i 0, sb 1 0x61, i 2, sb 1 0x78, i 5, i 1, i 1, i 0, sb 1 0x61, i 3, sb 1 0x78, i 5, i 2, i 1, i 0, sb 1 0x61, i 4, sb 1 0x78, i 5, i 3, i 1, i 0, sb 1 0x61, i 5, sb 1 0x78, i 5, i 4, i 1, i 0, sb 1 0x61, i 6, sb 1 0x78, i 5, i 5, i 1, i 0] 161)
noncomputable def Gnqa_e149 : Nat × AO := (25, R [sb 1 0x61, i 1, sb 1 0x78, i 5, i 0, i 1, i 0, sb 1 0x61, i 2, sb 1 0x78, i 5, i 1, i 1, i 0, sb 1 0x61, i 3, sb 1 0x78, i 5, i 2, i 1, i 0, sb 1 0x61, i 4, sb 1 0x78, i 5, i 3, i 1, i 0, sb 1 0x61, i 5, sb 1 0x78, i 5, i 4, i 1, i 0, sb 1 0x61, i 6, sb 1 0x78, i 5, i 5, i 1, i 0] 161)
noncomputable def Gnqa_e150 : Nat × AO := (22, r [sb 1 0x61, i 6, l 30 0 1 1] 63)
noncomputable def Gnqa_e151 : Nat × AO := (21, r [i 1, i 1, i 1, i 1005, l 23 0 1 INF, p 125 0, m0, m0, m0, l0, l 392 0 7 INF] 118)
noncomputable def Gnqa_e152 : Nat × AO := (125, r [m 381] 591)
noncomputable def Gnqa_e153 : Nat × AO := (381, .obj (.map ⟨[⟨sb 1 0x61, p 386 0, 0⟩]⟩ 1))
noncomputable def Gnqa_e154 : Nat × AO := (386, r [l 430 0 7 INF, m 385] 367)
noncomputable def Gnqa_e155 : Nat × AO := (430, R [sb 1 0x61, i 1, sb 1 0x78, i 5, i 0, i 1, i 0, sb 1 0x61, i 2, sb 1 0x78, i 5, i 1, i 1, i 0, sb 1 0x61, i 3, sb 1 0x78, i 5, i 2, i 1, i 0, sb 1 0x61, i 4, sb 1 0x78, i 5, i 3, i 1, i 0, sb 1 0x61, i 5, sb 1 0x78, i 5, i 4, i 1, i 0, sb 1 0x61, i 6, sb 1 0x78, i 5, i 5, i 1, i 0, sb 1 0x61, i 7, sb 1 0x78, i 5, i 6, i 1, i 0] 161)
noncomputable def Gnqa_e156 : Nat × AO := (385, .obj (.map ⟨[]⟩ 0))
noncomputable def Gnqa_e157 : Nat × AO := (392, R [sb 1 0x61, i 1, sb 1 0x78, i 5, i 0, i 1, i 0, sb 1 0x61, i 2, sb 1 0x78, i 5, i 1, i 1, i 0, sb 1 0x61, i 3, sb 1 0x78, i 5, i 2, i 1, i 0, sb 1 0x61, i 4, sb 1 0x78, i 5, i 3, i 1, i 0, sb 1 0x61, i 5, sb 1 0x78, i 5, i 4, i 1, i 0, sb 1 0x61, i 6, sb 1 0x78, i 5, i 5, i 1, i 0, sb 1 0x61, i 7, sb 1 0x78, i 5, i 6, i 1, i 0] 161)
noncomputable def Gnqa_23 : Seg := ⟨43, [p 21 0, .agg ⟨[i 3, i 0, i 0, ff, i 5, i 6, i 1, i 0, i 0, i 0, l0, s0, l 22 0 1 1, i 0, i 0, i 0, i 0, l0]⟩], [Gnqa_e146, Gnqa_e8, Gnqa_e32, Gnqa_e33, Gnqa_e147, Gnqa_e148, Gnqa_e36, Gnqa_e149, Gnqa_e150, Gnqa_e39], 31, i 0, [Gnqa_e151, Gnqa_e152, Gnqa_e153, Gnqa_e154, Gnqa_e155, Gnqa_e156, Gnqa_e157], 432⟩
theorem Gnqa_23_ok : segOk Tryz.prog 21 (Kno) 10000000 Gnqa_23 = true := by kernel_rfl
noncomputable def Gnqa_s : List Seg := [Gnqa_0, Gnqa_1, Gnqa_2, Gnqa_3, Gnqa_4, Gnqa_5, Gnqa_6, Gnqa_7, Gnqa_8, Gnqa_9, Gnqa_10, Gnqa_11, Gnqa_12, Gnqa_13, Gnqa_14, Gnqa_15, Gnqa_16, Gnqa_17, Gnqa_18, Gnqa_19, Gnqa_20, Gnqa_21, Gnqa_22, Gnqa_23]
theorem Gnqa_good {V : Nat} : ∀ g ∈ Gnqa_s, Good Tryz.prog 21 V g := good_cons (good_of follows (known_no) Gnqa_0_ok) (good_cons (good_of follows (known_no) Gnqa_1_ok) (good_cons (good_of follows (known_no) Gnqa_2_ok) (good_cons (good_of follows (known_no) Gnqa_3_ok) (good_cons (good_of follows (known_no) Gnqa_4_ok) (good_cons (good_of follows (known_no) Gnqa_5_ok) (good_cons (good_of follows (known_no) Gnqa_6_ok) (good_cons (good_of follows (known_no) Gnqa_7_ok) (good_cons (good_of follows (known_no) Gnqa_8_ok) (good_cons (good_of follows (known_no) Gnqa_9_ok) (good_cons (good_of follows (known_no) Gnqa_10_ok) (good_cons (good_of follows (known_no) Gnqa_11_ok) (good_cons (good_of follows (known_no) Gnqa_12_ok) (good_cons (good_of follows (known_no) Gnqa_13_ok) (good_cons (good_of follows (known_no) Gnqa_14_ok) (good_cons (good_of follows (known_no) Gnqa_15_ok) (good_cons (good_of follows (known_no) Gnqa_16_ok) (good_cons (good_of follows (known_no) Gnqa_17_ok) (good_cons (good_of follows (known_no) Gnqa_18_ok) (good_cons (good_of follows (known_no) Gnqa_19_ok) (good_cons (good_of follows (known_no) Gnqa_20_ok) (good_cons (good_of follows (known_no) Gnqa_21_ok) (good_cons (good_of follows (known_no) Gnqa_22_ok) (good_cons (good_of follows (known_no) Gnqa_23_ok) (good_nil))))))))))))))))))))))))
end Go.Proofs.YtigdbaicoiepiaaGreatDoor.X
