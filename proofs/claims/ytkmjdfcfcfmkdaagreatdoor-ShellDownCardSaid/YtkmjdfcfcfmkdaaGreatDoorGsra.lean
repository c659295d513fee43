/- ShellDown: calls of the world, run once. -/
import Derived.Test.YtkmjdfcfcfmkdaaGreatDoorGsqa
import Derived.Test.YtkmjdfcfcfmkdaaGreatDoorGsqb
import Derived.Test.YtkmjdfcfcfmkdaaGreatDoorGsqc
import Derived.Test.YtkmjdfcfcfmkdaaGreatDoorNux
namespace Go.Proofs.YtkmjdfcfcfmkdaaGreatDoor.X
open Go.RowKit S
noncomputable def Gsra_e0 : Nat × AO := (20, r [sb 3 0x77656e, sb 1 0x31] 9)
noncomputable def Gsra_e1 : Nat × AO := (23, R [i 1] 3)
noncomputable def Gsra_0 : Seg := ⟨14, [l 20 1 1 1], [Gsra_e0], 21, .tuple ⟨[l 23 0 1 INF, tt]⟩, [Gsra_e1], 24⟩
theorem Gsra_0_ok : segOk Tryz.prog 20 (orK (KTx 22 99) (orK (KM 20 [211, 212, 214] Gsqa_s) (orK (KM 20 [211, 212, 214] Gsqb_s) (KM 20 [211, 212, 214] Gsqc_s)))) 10000000 Gsra_0 = true := by kernel_rfl
noncomputable def Gsra_e2 : Nat × AO := (20, r [sb 4 0x64616572, sb 1 0x31, sb 1 0x35] 9)
noncomputable def Gsra_e3 : Nat × AO := (26, R [i 1, i 5] 3)
noncomputable def Gsra_1 : Seg := ⟨14, [l 20 1 2 2], [Gsra_e2], 21, .tuple ⟨[l 26 0 2 INF, tt]⟩, [Gsra_e3], 27⟩
theorem Gsra_1_ok : segOk Tryz.prog 20 (orK (KTx 22 99) (orK (KM 20 [211, 212, 214] Gsqa_s) (orK (KM 20 [211, 212, 214] Gsqb_s) (KM 20 [211, 212, 214] Gsqc_s)))) 10000000 Gsra_1 = true := by kernel_rfl
noncomputable def Gsra_e4 : Nat × AO := (20, r [sb 1 0x31, sb 1 0x31, sb 34 0x7d22223a2279656b222c5d5d2278222c312d2c2261225b5b3a22646e65707061227b] 9)
noncomputable def Gsra_e5 : Nat × AO := (26, R [i 1, i 1] 3)
noncomputable def Gsra_2 : Seg := ⟨14, [l 20 0 2 3], [Gsra_e4], 21, .tuple ⟨[l 26 0 2 INF, tt]⟩, [Gsra_e5], 27⟩
theorem Gsra_2_ok : segOk Tryz.prog 20 (orK (KTx 22 99) (orK (KM 20 [211, 212, 214] Gsqa_s) (orK (KM 20 [211, 212, 214] Gsqb_s) (KM 20 [211, 212, 214] Gsqc_s)))) 10000000 Gsra_2 = true := by kernel_rfl
noncomputable def Gsra_e6 : Nat × AO := (201, R [sb 1 0x61, .int .i64 (.negSucc 0), l 198 0 1 INF] 277)
noncomputable def Gsra_e7 : Nat × AO := (198, R [sb 1 0x78] 9)
noncomputable def Gsra_3 : Seg := ⟨26, [sb 34 0x7d22223a2279656b222c5d5d2278222c312d2c2261225b5b3a22646e65707061227b], [], 20, .tuple ⟨[.agg ⟨[i 1, i 0, i 0, i 0, s0, l 201 0 1 INF, s0, i 0, i 0, i 0, i 0, i 0, s0, s0, i 0, i 0, i 0, i 0, i 0, i 0]⟩, i 0]⟩, [Gsra_e6, Gsra_e7], 203⟩
theorem Gsra_3_ok : segOk Tryz.prog 20 (orK (KTx 22 99) (orK (KM 20 [211, 212, 214] Gsqa_s) (orK (KM 20 [211, 212, 214] Gsqb_s) (KM 20 [211, 212, 214] Gsqc_s)))) 10000000 Gsra_3 = true := by kernel_rfl
noncomputable def Gsra_e8 : Nat × AO := (20, r [l 22 0 1 INF, p 23 0, p 24 0, p 25 0, p 26 0, p 27 0, p 28 0, p 29 0, p 30 0, p 31 0] 79)
noncomputable def Gsra_e9 : Nat × AO := (22, R [p 32 0] 72)
noncomputable def Gsra_e10 : Nat × AO := (32, r [p 33 0, p 34 0, ff] 84)
noncomputable def Gsra_e11 : Nat × AO := (33, r [i 1048576, l 35 0 1 INF, i 2, i 0] 200)
noncomputable def Gsra_e12 : Nat × AO := (35, R [p 36 0] 132)
noncomputable def Gsra_e13 : Nat × AO := (36, r [sb 4 0x30676573, l 37 0 19 INF, l0] 134)
noncomputable def Gsra_e14 : Nat × AO := (37, R (bz 19 0x9216017f010100000002fb42dead0000000001) 5)
noncomputable def Gsra_e15 : Nat × AO := (34, r [i 1, i 1, p 38 0, p 39 0, p 40 0, m 41, l0, m 42, i 0, i 0, ff, l0, l0] 188)
noncomputable def Gsra_e16 : Nat × AO := (38, r [p 43 0, p 44 0, p 45 0] 329)
noncomputable def Gsra_e17 : Nat × AO := (43, r [p 33 0, l 46 0 1 INF, l 47 0 1 INF, i 2, ff, ff] 475)
noncomputable def Gsra_e18 : Nat × AO := (46, R [l 48 0 2 INF] 29)
noncomputable def Gsra_e19 : Nat × AO := (48, R (bz 2 0x0101) 5)
noncomputable def Gsra_e20 : Nat × AO := (47, R [i 0] 3)
noncomputable def Gsra_e21 : Nat × AO := (44, r [i 1, i 1, i 1, i 0, l 49 0 1 INF, p 50 0, m0, m0, m0, l0, l0] 251)
noncomputable def Gsra_e22 : Nat × AO := (49, R [i 0, i 4294967295, i 1, i 1] 61)
noncomputable def Gsra_e23 : Nat × AO := (50, r [m0] 562)
noncomputable def Gsra_e24 : Nat × AO := (45, r [i 1, i 1, i 1, i 0, l 51 0 1 INF, p 52 0, m0, m0, m0, l0, l0] 251)
noncomputable def Gsra_e25 : Nat × AO := (51, R [i 0, i 4294967295, i 1, i 1] 61)
noncomputable def Gsra_e26 : Nat × AO := (52, r [m0] 562)
noncomputable def Gsra_e27 : Nat × AO := (39, r [i 5, i 1, i 0, i 1] 281)
noncomputable def Gsra_e28 : Nat × AO := (40, r [i 1, l 53 0 2 2] 335)
noncomputable def Gsra_e29 : Nat × AO := (53, r [l0, i 0, i 0, i 0, l0, i 0, i 0, i 0] 373)
noncomputable def Gsra_e30 : Nat × AO := (41, .obj (.map ⟨[]⟩ 0))
noncomputable def Gsra_e31 : Nat × AO := (42, .obj (.map ⟨[]⟩ 0))
noncomputable def Gsra_e32 : Nat × AO := (23, r [i 0, m0, i 0, i 0, i 0, i 0, i 0, i 0, i 0, s0, l0, l0] 176)
noncomputable def Gsra_e33 : Nat × AO := (24, r [i 0, m0, i 0, i 0, i 0, i 0, i 0, i 0, i 0, s0, l0, l0] 176)
noncomputable def Gsra_e34 : Nat × AO := (25, r [i 0, m0, i 0, i 0, i 0, i 0, i 0, i 0, i 0, s0, l0, l0] 176)
noncomputable def Gsra_e35 : Nat × AO := (26, r [i 0, m0, i 0, i 0, i 0, i 0, i 0, i 0, i 0, s0, l0, l0] 176)
noncomputable def Gsra_e36 : Nat × AO := (27, r [i 0, m0, i 0, i 0, i 0, i 0, i 0, i 0, i 0, s0, l0, l0] 176)
noncomputable def Gsra_e37 : Nat × AO := (28, r [i 0, m0, i 0, i 0, i 0, i 0, i 0, i 0, i 0, s0, l0, l0] 176)
noncomputable def Gsra_e38 : Nat × AO := (29, r [i 0, m0, i 0, i 0, i 0, i 0, i 0, i 0, i 0, s0, l0, l0] 176)
noncomputable def Gsra_e39 : Nat × AO := (30, r [i 0, m0, i 0, i 0, i 0, i 0, i 0, i 0, i 0, s0, l0, l0] 176)
noncomputable def Gsra_e40 : Nat × AO := (31, r [l0] 129)
noncomputable def Gsra_e41 : Nat × AO := (21, R [sb 1 0x61, .int .i64 (.negSucc 0), l 54 0 1 INF] 277)
noncomputable def Gsra_e42 : Nat × AO := (54, R [sb 1 0x78] 9)
noncomputable def Gsra_e43 : Nat × AO := (33, r [i 1048576, l 35 0 1 INF, i 4, i 0] 200)
noncomputable def Gsra_e44 : Nat × AO := (36, r [sb 4 0x30676573, l 646 0 50 INF, l0] 134)
noncomputable def Gsra_e45 : Nat × AO := (37, .dead)
noncomputable def Gsra_e46 : Nat × AO := (43, r [p 33 0, l 655 0 3 INF, l 47 0 1 INF, i 17, ff, ff] 475)
noncomputable def Gsra_e47 : Nat × AO := (46, .dead)
noncomputable def Gsra_e48 : Nat × AO := (44, r [i 1, i 1, i 1, i 1005, l 49 0 1 INF, p 321 0, m0, m0, m0, l0, l 337 0 1 INF] 251)
noncomputable def Gsra_e49 : Nat × AO := (45, r [i 1, i 1, i 1, i 1005, l 51 0 1 INF, p 473 0, m0, m0, m0, l0, l 489 0 1 INF] 251)
noncomputable def Gsra_e50 : Nat × AO := (39, r [i 5, i 5, i 0, i 1] 281)
noncomputable def Gsra_e51 : Nat × AO := (23, r [i 1, m 65, i 5, i 0, i 1, i 0, i 0, i 0, i 0, s0, l0, l 674 0 1 INF] 176)
noncomputable def Gsra_e52 : Nat × AO := (646, R (bz 50 0x57f31e9a0100057801010161010100030000000cdab4098f07ed02000000039216017f010100000002fb42dead0000000001) 5)
noncomputable def Gsra_e53 : Nat × AO := (655, R [l 48 0 2 INF, l 649 0 3 INF, l 653 0 12 INF] 29)
noncomputable def Gsra_e54 : Nat × AO := (649, R (bz 3 0x07ed02) 5)
noncomputable def Gsra_e55 : Nat × AO := (653, R (bz 12 0x010005780101016101010003) 5)
noncomputable def Gsra_e56 : Nat × AO := (321, r [m 331] 562)
noncomputable def Gsra_e57 : Nat × AO := (331, .obj (.map ⟨[⟨sb 1 0x61, p 376 0, 0⟩]⟩ 1))
noncomputable def Gsra_e58 : Nat × AO := (376, r [l 377 0 1 INF, m 375] 557)
noncomputable def Gsra_e59 : Nat × AO := (377, R [sb 1 0x61, i 1, sb 1 0x78, i 5, i 0, i 1, i 0] 152)
noncomputable def Gsra_e60 : Nat × AO := (375, .obj (.map ⟨[]⟩ 0))
noncomputable def Gsra_e61 : Nat × AO := (337, R [sb 1 0x61, i 1, sb 1 0x78, i 5, i 0, i 1, i 0] 152)
noncomputable def Gsra_e62 : Nat × AO := (473, r [m 483] 562)
noncomputable def Gsra_e63 : Nat × AO := (483, .obj (.map ⟨[⟨sb 1 0x61, p 528 0, 0⟩]⟩ 1))
noncomputable def Gsra_e64 : Nat × AO := (528, r [l 529 0 1 INF, m 527] 557)
noncomputable def Gsra_e65 : Nat × AO := (529, R [sb 1 0x61, i 1, sb 1 0x78, i 5, i 0, i 1, i 0] 152)
noncomputable def Gsra_e66 : Nat × AO := (527, .obj (.map ⟨[]⟩ 0))
noncomputable def Gsra_e67 : Nat × AO := (489, R [sb 1 0x61, i 1, sb 1 0x78, i 5, i 0, i 1, i 0] 152)
noncomputable def Gsra_e68 : Nat × AO := (65, .obj (.map ⟨[]⟩ 1))
noncomputable def Gsra_e69 : Nat × AO := (674, R [i 0, i 1, i 0, i 5, i 0, i 1, l 672 0 1 INF, l0, i 0, i 0, i 0, i 0, s0, l0, i 0] 148)
noncomputable def Gsra_e70 : Nat × AO := (672, R [i 1] 3)
noncomputable def Gsra_4 : Seg := ⟨27, [p 20 0, i 1, i 1, .agg ⟨[i 1, i 0, i 0, i 0, s0, l 21 0 1 INF, s0, i 0, i 0, i 0, i 0, i 0, s0, s0, i 0, i 0, i 0, i 0, i 0, i 0]⟩], [Gsra_e8, Gsra_e9, Gsra_e10, Gsra_e11, Gsra_e12, Gsra_e13, Gsra_e14, Gsra_e15, Gsra_e16, Gsra_e17, Gsra_e18, Gsra_e19, Gsra_e20, Gsra_e21, Gsra_e22, Gsra_e23, Gsra_e24, Gsra_e25, Gsra_e26, Gsra_e27, Gsra_e28, Gsra_e29, Gsra_e30, Gsra_e31, Gsra_e32, Gsra_e33, Gsra_e34, Gsra_e35, Gsra_e36, Gsra_e37, Gsra_e38, Gsra_e39, Gsra_e40, Gsra_e41, Gsra_e42], 55, .tuple ⟨[i 1, i 0]⟩, [Gsra_e43, Gsra_e44, Gsra_e45, Gsra_e46, Gsra_e47, Gsra_e48, Gsra_e49, Gsra_e50, Gsra_e51, Gsra_e52, Gsra_e53, Gsra_e54, Gsra_e55, Gsra_e56, Gsra_e57, Gsra_e58, Gsra_e59, Gsra_e60, Gsra_e61, Gsra_e62, Gsra_e63, Gsra_e64, Gsra_e65, Gsra_e66, Gsra_e67, Gsra_e68, Gsra_e69, Gsra_e70], 684⟩
theorem Gsra_4_ok : segOk Tryz.prog 20 (orK (KTx 22 99) (orK (KM 20 [211, 212, 214] Gsqa_s) (orK (KM 20 [211, 212, 214] Gsqb_s) (KM 20 [211, 212, 214] Gsqc_s)))) 10000000 Gsra_4 = true := by kernel_rfl
noncomputable def Gsra_e71 : Nat × AO := (20, r [sb 7 0x7365696c706572, sb 1 0x31] 9)
noncomputable def Gsra_5 : Seg := ⟨14, [l 20 1 1 1], [Gsra_e71], 21, .tuple ⟨[l 23 0 1 INF, tt]⟩, [Gsra_e1], 24⟩
theorem Gsra_5_ok : segOk Tryz.prog 20 (orK (KTx 22 99) (orK (KM 20 [211, 212, 214] Gsqa_s) (orK (KM 20 [211, 212, 214] Gsqb_s) (KM 20 [211, 212, 214] Gsqc_s)))) 10000000 Gsra_5 = true := by kernel_rfl
noncomputable def Gsra_s : List Seg := [Gsra_0, Gsra_1, Gsra_2, Gsra_3, Gsra_4, Gsra_5]
theorem Gsra_good {V : Nat} : ∀ g ∈ Gsra_s, Good Tryz.prog 20 V g := good_cons (good_of follows (known_or (known_KTx cntC idxC) (known_or (known_KM Gsqa_good) (known_or (known_KM Gsqb_good) (known_KM Gsqc_good)))) Gsra_0_ok) (good_cons (good_of follows (known_or (known_KTx cntC idxC) (known_or (known_KM Gsqa_good) (known_or (known_KM Gsqb_good) (known_KM Gsqc_good)))) Gsra_1_ok) (good_cons (good_of follows (known_or (known_KTx cntC idxC) (known_or (known_KM Gsqa_good) (known_or (known_KM Gsqb_good) (known_KM Gsqc_good)))) Gsra_2_ok) (good_cons (good_of follows (known_or (known_KTx cntC idxC) (known_or (known_KM Gsqa_good) (known_or (known_KM Gsqb_good) (known_KM Gsqc_good)))) Gsra_3_ok) (good_cons (good_of follows (known_or (known_KTx cntC idxC) (known_or (known_KM Gsqa_good) (known_or (known_KM Gsqb_good) (known_KM Gsqc_good)))) Gsra_4_ok) (good_cons (good_of follows (known_or (known_KTx cntC idxC) (known_or (known_KM Gsqa_good) (known_or (known_KM Gsqb_good) (known_KM Gsqc_good)))) Gsra_5_ok) (good_nil))))))
end Go.Proofs.YtkmjdfcfcfmkdaaGreatDoor.X
