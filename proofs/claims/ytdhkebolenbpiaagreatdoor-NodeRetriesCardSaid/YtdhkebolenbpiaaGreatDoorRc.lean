/- NodeRetries: calls that do not hang on the key, run once. -/
import Derived.Test.YtdhkebolenbpiaaGreatDoorRb
namespace Go.Proofs.YtdhkebolenbpiaaGreatDoor.X
open Go.RowKit S
noncomputable def Rc_e0 : Nat × AO := (32, R (bz 2 0x0101) 5)
noncomputable def Rc_0 : Seg := ⟨58, [.agg ⟨[i 1, i 1, i 0, ff, i 0, i 0, i 0, i 0, i 0, i 0, l0, s0, l0, i 0, i 0, i 0, i 0, l0]⟩], [], 20, .tuple ⟨[l 32 0 2 INF, i 0]⟩, [Rc_e0], 35⟩
theorem Rc_0_ok : segOk Tryz.prog 20 (KSumX 286) 10000000 Rc_0 = true := by kernel_rfl
noncomputable def Rc_e1 : Nat × AO := (34, R (bz 3 0x07ed02) 5)
noncomputable def Rc_1 : Seg := ⟨58, [.agg ⟨[i 2, i 1005, i 0, ff, i 0, i 0, i 0, i 0, i 0, i 0, l0, s0, l0, i 0, i 0, i 0, i 0, l0]⟩], [], 20, .tuple ⟨[l 34 0 3 INF, i 0]⟩, [Rc_e1], 37⟩
theorem Rc_1_ok : segOk Tryz.prog 20 (KSumX 286) 10000000 Rc_1 = true := by kernel_rfl
noncomputable def Rc_e2 : Nat × AO := (32, R (bz 2 0x0201) 5)
noncomputable def Rc_2 : Seg := ⟨58, [.agg ⟨[i 1, i 2, i 0, ff, i 0, i 0, i 0, i 0, i 0, i 0, l0, s0, l0, i 0, i 0, i 0, i 0, l0]⟩], [], 20, .tuple ⟨[l 32 0 2 INF, i 0]⟩, [Rc_e2], 35⟩
theorem Rc_2_ok : segOk Tryz.prog 20 (KSumX 286) 10000000 Rc_2 = true := by kernel_rfl
noncomputable def Rc_e3 : Nat × AO := (34, R (bz 3 0x0fd602) 5)
noncomputable def Rc_3 : Seg := ⟨58, [.agg ⟨[i 2, i 2006, i 0, ff, i 0, i 0, i 0, i 0, i 0, i 0, l0, s0, l0, i 0, i 0, i 0, i 0, l0]⟩], [], 20, .tuple ⟨[l 34 0 3 INF, i 0]⟩, [Rc_e3], 37⟩
theorem Rc_3_ok : segOk Tryz.prog 20 (KSumX 286) 10000000 Rc_3 = true := by kernel_rfl
noncomputable def Rc_e4 : Nat × AO := (20, r [i 1, i 1, i 0, i 0, l 21 0 1 INF, p 22 0, m0, m0, m0, l0, l0] 128)
noncomputable def Rc_e5 : Nat × AO := (20, r [i 1, i 1, i 1, i 0, l 21 0 1 INF, p 22 0, m0, m0, m0, l0, l0] 128)
noncomputable def Rc_4 : Seg := ⟨56, [p 20 0, .agg ⟨[i 1, i 1, i 0, ff, i 0, i 0, i 0, i 0, i 0, i 0, l0, s0, l0, i 0, i 0, i 0, i 0, l0]⟩], [Rc_e4], 23, i 0, [Rc_e5], 40⟩
theorem Rc_4_ok : segOk Tryz.prog 20 (KSumX 286) 10000000 Rc_4 = true := by kernel_rfl
noncomputable def Rc_e6 : Nat × AO := (20, r [p 22 0, l0, l0, i 0, ff, ff] 224)
noncomputable def Rc_e7 : Nat × AO := (22, r [i 4194304, l0, i 0, i 0] 131)
noncomputable def Rc_e8 : Nat × AO := (21, R [l 23 0 2 INF] 105)
noncomputable def Rc_e9 : Nat × AO := (23, R (bz 2 0x0101) 5)
noncomputable def Rc_e10 : Nat × AO := (20, r [p 22 0, l 85 0 1 INF, l 81 0 1 INF, i 2, ff, ff] 224)
noncomputable def Rc_e11 : Nat × AO := (22, r [i 4194304, l 76 0 1 INF, i 2, i 0] 131)
noncomputable def Rc_e12 : Nat × AO := (76, R [p 74 0] 104)
noncomputable def Rc_e13 : Nat × AO := (74, r [sb 4 0x30676573, l 78 0 19 INF, l0] 107)
noncomputable def Rc_e14 : Nat × AO := (78, R (bz 19 0x9216017f010100000002fb42dead0000000001) 5)
noncomputable def Rc_e15 : Nat × AO := (85, R [l 83 0 2 INF] 105)
noncomputable def Rc_e16 : Nat × AO := (83, R (bz 2 0x0101) 5)
noncomputable def Rc_e17 : Nat × AO := (81, R [i 0] 3)
noncomputable def Rc_5 : Seg := ⟨59, [p 20 0, l 21 0 1 INF], [Rc_e6, Rc_e7, Rc_e8, Rc_e9], 24, .tuple ⟨[i 0, i 0]⟩, [Rc_e10, Rc_e11, Rc_e12, Rc_e13, Rc_e14, Rc_e15, Rc_e16, Rc_e17], 86⟩
theorem Rc_5_ok : segOk Tryz.prog 20 (KSumX 286) 10000000 Rc_5 = true := by kernel_rfl
noncomputable def Rc_e18 : Nat × AO := (20, r [i 1, i 1, i 1, i 1005, l 21 0 1 INF, p 22 0, m0, m0, m0, l0, l0] 128)
noncomputable def Rc_6 : Seg := ⟨56, [p 20 0, .agg ⟨[i 2, i 1005, i 0, ff, i 0, i 0, i 0, i 0, i 0, i 0, l0, s0, l0, i 0, i 0, i 0, i 0, l0]⟩], [Rc_e5], 23, i 0, [Rc_e18], 42⟩
theorem Rc_6_ok : segOk Tryz.prog 20 (KSumX 286) 10000000 Rc_6 = true := by kernel_rfl
noncomputable def Rc_e19 : Nat × AO := (20, R (bz 2 0x0101) 5)
noncomputable def Rc_7 : Seg := ⟨55, [l 20 0 2 INF], [Rc_e19], 21, .tuple ⟨[.agg ⟨[i 1, i 1, i 0, ff, i 0, i 0, i 0, i 0, i 0, i 0, l0, s0, l0, i 0, i 0, i 0, i 0, l0]⟩, i 0]⟩, [], 44⟩
theorem Rc_7_ok : segOk Tryz.prog 20 (KSumX 286) 10000000 Rc_7 = true := by kernel_rfl
noncomputable def Rc_e20 : Nat × AO := (20, R (bz 3 0x07ed02) 5)
noncomputable def Rc_8 : Seg := ⟨55, [l 20 0 3 INF], [Rc_e20], 21, .tuple ⟨[.agg ⟨[i 2, i 1005, i 0, ff, i 0, i 0, i 0, i 0, i 0, i 0, l0, s0, l0, i 0, i 0, i 0, i 0, l0]⟩, i 0]⟩, [], 46⟩
theorem Rc_8_ok : segOk Tryz.prog 20 (KSumX 286) 10000000 Rc_8 = true := by kernel_rfl
noncomputable def Rc_e21 : Nat × AO := (20, r [i 1, i 1, i 1, i 1005, l 21 0 1 INF, p 22 0, m0, m0, m0, l0, l 23 0 3 INF] 128)
noncomputable def Rc_e22 : Nat × AO := (20, r [i 1, i 1, i 2, i 1005, l 21 0 1 INF, p 22 0, m0, m0, m0, l0, l 23 0 3 INF] 128)
noncomputable def Rc_9 : Seg := ⟨56, [p 20 0, .agg ⟨[i 1, i 2, i 0, ff, i 0, i 0, i 0, i 0, i 0, i 0, l0, s0, l0, i 0, i 0, i 0, i 0, l0]⟩], [Rc_e21], 24, i 0, [Rc_e22], 41⟩
theorem Rc_9_ok : segOk Tryz.prog 20 (KSumX 286) 10000000 Rc_9 = true := by kernel_rfl
noncomputable def Rc_e23 : Nat × AO := (20, r [i 1, i 1, i 2, i 2006, l 21 0 1 INF, p 22 0, m0, m0, m0, l0, l 23 0 3 INF] 128)
noncomputable def Rc_10 : Seg := ⟨56, [p 20 0, .agg ⟨[i 2, i 2006, i 0, ff, i 0, i 0, i 0, i 0, i 0, i 0, l0, s0, l0, i 0, i 0, i 0, i 0, l0]⟩], [Rc_e22], 24, i 0, [Rc_e23], 43⟩
theorem Rc_10_ok : segOk Tryz.prog 20 (KSumX 286) 10000000 Rc_10 = true := by kernel_rfl
noncomputable def Rc_e24 : Nat × AO := (20, r [i 1, i 1, i 1, i 1001, l 21 0 1 INF, p 22 0, m0, m0, m0, l0, l0] 128)
noncomputable def Rc_11 : Seg := ⟨56, [p 20 0, .agg ⟨[i 2, i 1001, i 0, ff, i 0, i 0, i 0, i 0, i 0, i 0, l0, s0, l0, i 0, i 0, i 0, i 0, l0]⟩], [Rc_e5], 23, i 0, [Rc_e24], 42⟩
theorem Rc_11_ok : segOk Tryz.prog 20 (KSumX 286) 10000000 Rc_11 = true := by kernel_rfl
noncomputable def Rc_e25 : Nat × AO := (20, r [p 22 0, l 23 0 1 INF, l 24 0 1 INF, i 2, ff, ff] 224)
noncomputable def Rc_e26 : Nat × AO := (22, r [i 4194304, l 25 0 1 INF, i 2, i 0] 131)
noncomputable def Rc_e27 : Nat × AO := (25, R [p 26 0] 104)
noncomputable def Rc_e28 : Nat × AO := (26, r [sb 4 0x30676573, l 27 0 19 INF, l0] 107)
noncomputable def Rc_e29 : Nat × AO := (27, R (bz 19 0x9216017f010100000002fb42dead0000000001) 5)
noncomputable def Rc_e30 : Nat × AO := (23, R [l 28 0 2 INF] 105)
noncomputable def Rc_e31 : Nat × AO := (21, R [l 29 0 3 INF] 105)
noncomputable def Rc_e32 : Nat × AO := (29, R (bz 3 0x07e902) 5)
noncomputable def Rc_e33 : Nat × AO := (20, r [p 22 0, l 67 0 2 INF, l 24 0 1 INF, i 5, ff, ff] 224)
noncomputable def Rc_e34 : Nat × AO := (22, r [i 4194304, l 25 0 1 INF, i 4, i 0] 131)
noncomputable def Rc_e35 : Nat × AO := (26, r [sb 4 0x30676573, l 62 0 30 INF, l0] 107)
noncomputable def Rc_e36 : Nat × AO := (27, .dead)
noncomputable def Rc_e37 : Nat × AO := (23, .dead)
noncomputable def Rc_e38 : Nat × AO := (62, R (bz 30 0xbed8cc8b07e902000000039216017f010100000002fb42dead0000000001) 5)
noncomputable def Rc_e39 : Nat × AO := (67, R [l 28 0 2 INF, l 65 0 3 INF] 105)
noncomputable def Rc_e40 : Nat × AO := (65, R (bz 3 0x07e902) 5)
noncomputable def Rc_12 : Seg := ⟨59, [p 20 0, l 21 0 1 INF], [Rc_e25, Rc_e26, Rc_e27, Rc_e28, Rc_e29, Rc_e30, Rc_e31, Rc_e32], 30, .tuple ⟨[i 1, i 0]⟩, [Rc_e33, Rc_e34, Rc_e35, Rc_e36, Rc_e37, Rc_e38, Rc_e39, Rc_e40], 68⟩
theorem Rc_12_ok : segOk Tryz.prog 20 (KSumX 286) 10000000 Rc_12 = true := by kernel_rfl
noncomputable def Rc_e41 : Nat × AO := (175, r [p 20 0, p 159 0, p 165 0, l 178 0 1 INF, i 0, l0, ff] 32)
noncomputable def Rc_e42 : Nat × AO := (20, r [i 4194304, l 145 0 1 INF, i 2, i 0] 131)
noncomputable def Rc_e43 : Nat × AO := (145, R [p 143 0] 104)
noncomputable def Rc_e44 : Nat × AO := (143, r [sb 4 0x30676573, l 147 0 19 INF, l0] 107)
noncomputable def Rc_e45 : Nat × AO := (147, R (bz 19 0x9216017f010100000002fb42dead0000000001) 5)
noncomputable def Rc_e46 : Nat × AO := (159, r [i 1, i 1, p 37 0, p 160 0, p 156 0, m 157, l0, m 158, i 0, i 0, ff, l0, l0] 84)
noncomputable def Rc_e47 : Nat × AO := (37, r [p 31 0, p 25 0, p 30 0] 168)
noncomputable def Rc_e48 : Nat × AO := (31, r [p 20 0, l 154 0 1 INF, l 150 0 1 INF, i 2, ff, ff] 224)
noncomputable def Rc_e49 : Nat × AO := (154, R [l 152 0 2 INF] 105)
noncomputable def Rc_e50 : Nat × AO := (152, R (bz 2 0x0101) 5)
noncomputable def Rc_e51 : Nat × AO := (150, R [i 0] 3)
noncomputable def Rc_e52 : Nat × AO := (25, r [i 1, i 1, i 1, i 0, l 23 0 1 INF, p 24 0, m0, m0, m0, l0, l0] 128)
noncomputable def Rc_e53 : Nat × AO := (23, R [i 0, i 4294967295, i 1, i 1] 45)
noncomputable def Rc_e54 : Nat × AO := (24, r [m0] 310)
noncomputable def Rc_e55 : Nat × AO := (30, r [i 1, i 1, i 1, i 0, l 28 0 1 INF, p 29 0, m0, m0, m0, l0, l0] 128)
noncomputable def Rc_e56 : Nat × AO := (28, R [i 0, i 4294967295, i 1, i 1] 45)
noncomputable def Rc_e57 : Nat × AO := (29, r [m0] 310)
noncomputable def Rc_e58 : Nat × AO := (160, r [i 0, i 1, i 0, i 1] 156)
noncomputable def Rc_e59 : Nat × AO := (156, r [i 1, l 155 0 2 2] 175)
noncomputable def Rc_e60 : Nat × AO := (155, r [l0, i 0, i 0, i 0, l0, i 0, i 0, i 0] 416)
noncomputable def Rc_e61 : Nat × AO := (157, .obj (.map ⟨[]⟩ 0))
noncomputable def Rc_e62 : Nat × AO := (158, .obj (.map ⟨[]⟩ 0))
noncomputable def Rc_e63 : Nat × AO := (165, r [i 1, i 1, p 167 0, p 164 0, p 166 0, l 170 0 1 INF, p 174 0, l0, l0, i 0, i 0, l 172 0 1 INF, l0, l0] 141)
noncomputable def Rc_e64 : Nat × AO := (167, r [i 1, i 1, i 1, i 0, l 162 0 1 INF, l0, l0, l0, l0, l0, l0] 150)
noncomputable def Rc_e65 : Nat × AO := (162, R [i 0, i 4294967295, i 1, i 1] 45)
noncomputable def Rc_e66 : Nat × AO := (164, r [i 1, i 1, i 1, i 0, l 162 0 1 INF, l0, l0, l0, l0, l0, l0] 150)
noncomputable def Rc_e67 : Nat × AO := (166, r [i 1, i 1, i 0, i 0] 216)
noncomputable def Rc_e68 : Nat × AO := (170, R [p 168 0] 74)
noncomputable def Rc_e69 : Nat × AO := (168, r [i 1, i 0, i 1, l0, i 0] 154)
noncomputable def Rc_e70 : Nat × AO := (174, r [i 1, l 173 0 1 1] 219)
noncomputable def Rc_e71 : Nat × AO := (173, r [l0, i 0, i 0, i 0] 646)
noncomputable def Rc_e72 : Nat × AO := (172, R [.int .i64 (.negSucc 0)] 3)
noncomputable def Rc_e73 : Nat × AO := (178, R [p 176 0] 74)
noncomputable def Rc_e74 : Nat × AO := (176, r [i 1, i 0, i 1, l0, i 0] 154)
noncomputable def Rc_13 : Seg := ⟨5, [i 1], [], 20, .tuple ⟨[p 175 0, tt]⟩, [Rc_e41, Rc_e42, Rc_e43, Rc_e44, Rc_e45, Rc_e46, Rc_e47, Rc_e48, Rc_e49, Rc_e50, Rc_e51, Rc_e52, Rc_e53, Rc_e54, Rc_e55, Rc_e56, Rc_e57, Rc_e58, Rc_e59, Rc_e60, Rc_e61, Rc_e62, Rc_e63, Rc_e64, Rc_e65, Rc_e66, Rc_e67, Rc_e68, Rc_e69, Rc_e70, Rc_e71, Rc_e72, Rc_e73, Rc_e74], 179⟩
theorem Rc_13_ok : segOk Tryz.prog 20 (KSumX 286) 10000000 Rc_13 = true := by kernel_rfl
noncomputable def Rc_e75 : Nat × AO := (20, R [i 1, i 1] 3)
noncomputable def Rc_e76 : Nat × AO := (21, R [i 1, i 1] 3)
noncomputable def Rc_14 : Seg := ⟨10, [.agg ⟨[i 0, i 5, i 0, i 1, l 20 0 2 INF, l0, i 0, i 0, i 0, i 0, s0, l0, i 0]⟩, .agg ⟨[i 0, i 5, i 0, i 1, l 21 0 2 INF, l0, i 0, i 0, i 0, i 0, s0, l0, i 0]⟩], [Rc_e75, Rc_e76], 22, tt, [], 24⟩
theorem Rc_14_ok : segOk Tryz.prog 20 (KSumX 286) 10000000 Rc_14 = true := by kernel_rfl
noncomputable def Rc_e77 : Nat × AO := (22, r [m 24] 310)
noncomputable def Rc_e78 : Nat × AO := (24, .obj (.map ⟨[⟨sb 1 0x61, p 25 0, 0⟩, ⟨sb 1 0x62, p 26 0, 1⟩]⟩ 2))
noncomputable def Rc_e79 : Nat × AO := (25, r [l 27 0 1 INF, m 28] 212)
noncomputable def Rc_15 : Seg := ⟨12, [p 20 0, sb 1 0x61], [Rc_e23, Rc_e77, Rc_e78, Rc_e79], 29, i 1, [], 29⟩
theorem Rc_15_ok : segOk Tryz.prog 20 (KSumX 286) 10000000 Rc_15 = true := by kernel_rfl
noncomputable def Rc_e80 : Nat × AO := (26, r [l 27 0 2 INF, m 28] 212)
noncomputable def Rc_16 : Seg := ⟨12, [p 20 0, sb 1 0x62], [Rc_e23, Rc_e77, Rc_e78, Rc_e80], 29, i 2, [], 29⟩
theorem Rc_16_ok : segOk Tryz.prog 20 (KSumX 286) 10000000 Rc_16 = true := by kernel_rfl
noncomputable def Rc_17 : Seg := ⟨12, [p 20 0, sb 1 0x61], [Rc_e21, Rc_e77, Rc_e78, Rc_e79], 29, i 1, [], 29⟩
theorem Rc_17_ok : segOk Tryz.prog 20 (KSumX 286) 10000000 Rc_17 = true := by kernel_rfl
noncomputable def Rc_18 : Seg := ⟨12, [p 20 0, sb 1 0x62], [Rc_e21, Rc_e77, Rc_e78, Rc_e80], 29, i 2, [], 29⟩
theorem Rc_18_ok : segOk Tryz.prog 20 (KSumX 286) 10000000 Rc_18 = true := by kernel_rfl
noncomputable def Rc_s : List Seg := [Rc_0, Rc_1, Rc_2, Rc_3, Rc_4, Rc_5, Rc_6, Rc_7, Rc_8, Rc_9, Rc_10, Rc_11, Rc_12, Rc_13, Rc_14, Rc_15, Rc_16, Rc_17, Rc_18]
theorem Rc_good {V : Nat} : ∀ g ∈ Rc_s, Good Tryz.prog 20 V g := good_cons (good_of follows (known_KSumX rfl) Rc_0_ok) (good_cons (good_of follows (known_KSumX rfl) Rc_1_ok) (good_cons (good_of follows (known_KSumX rfl) Rc_2_ok) (good_cons (good_of follows (known_KSumX rfl) Rc_3_ok) (good_cons (good_of follows (known_KSumX rfl) Rc_4_ok) (good_cons (good_of follows (known_KSumX rfl) Rc_5_ok) (good_cons (good_of follows (known_KSumX rfl) Rc_6_ok) (good_cons (good_of follows (known_KSumX rfl) Rc_7_ok) (good_cons (good_of follows (known_KSumX rfl) Rc_8_ok) (good_cons (good_of follows (known_KSumX rfl) Rc_9_ok) (good_cons (good_of follows (known_KSumX rfl) Rc_10_ok) (good_cons (good_of follows (known_KSumX rfl) Rc_11_ok) (good_cons (good_of follows (known_KSumX rfl) Rc_12_ok) (good_cons (good_of follows (known_KSumX rfl) Rc_13_ok) (good_cons (good_of follows (known_KSumX rfl) Rc_14_ok) (good_cons (good_of follows (known_KSumX rfl) Rc_15_ok) (good_cons (good_of follows (known_KSumX rfl) Rc_16_ok) (good_cons (good_of follows (known_KSumX rfl) Rc_17_ok) (good_cons (good_of follows (known_KSumX rfl) Rc_18_ok) (good_nil)))))))))))))))))))
end Go.Proofs.YtdhkebolenbpiaaGreatDoor.X
