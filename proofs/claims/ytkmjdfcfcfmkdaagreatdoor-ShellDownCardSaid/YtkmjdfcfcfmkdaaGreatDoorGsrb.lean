/- ShellDown: calls of the world, run once. -/
import Derived.Test.YtkmjdfcfcfmkdaaGreatDoorGsqa
import Derived.Test.YtkmjdfcfcfmkdaaGreatDoorGsqb
import Derived.Test.YtkmjdfcfcfmkdaaGreatDoorGsqc
import Derived.Test.YtkmjdfcfcfmkdaaGreatDoorNux
namespace Go.Proofs.YtkmjdfcfcfmkdaaGreatDoor.X
open Go.RowKit S
noncomputable def Gsrb_e0 : Nat × AO := (20, R [i 1] 3)
noncomputable def Gsrb_0 : Seg := ⟨81, [.agg ⟨[i 0, i 5, i 0, i 1, l 20 0 1 INF, l0, i 0, i 0, i 0, i 0, s0, l0, i 0]⟩], [Gsrb_e0], 21, sb 39 0x7d223140302e35223a22706d617473222c5d315b3a22737473726966222c303a2265646f63227b, [], 122⟩
theorem Gsrb_0_ok : segOk Tryz.prog 20 (orK (KTx 22 99) (orK (KM 20 [211, 212, 214] Gsqa_s) (orK (KM 20 [211, 212, 214] Gsqb_s) (KM 20 [211, 212, 214] Gsqc_s)))) 10000000 Gsrb_0 = true := by kernel_rfl
noncomputable def Gsrb_e1 : Nat × AO := (20, r [sb 5 0x6873617263, sb 1 0x31] 9)
noncomputable def Gsrb_e2 : Nat × AO := (23, R [i 1] 3)
noncomputable def Gsrb_1 : Seg := ⟨14, [l 20 1 1 1], [Gsrb_e1], 21, .tuple ⟨[l 23 0 1 INF, tt]⟩, [Gsrb_e2], 24⟩
theorem Gsrb_1_ok : segOk Tryz.prog 20 (orK (KTx 22 99) (orK (KM 20 [211, 212, 214] Gsqa_s) (orK (KM 20 [211, 212, 214] Gsqb_s) (KM 20 [211, 212, 214] Gsqc_s)))) 10000000 Gsrb_1 = true := by kernel_rfl
noncomputable def Gsrb_e3 : Nat × AO := (20, r [l 21 0 1 INF, p 22 0, p 23 0, p 24 0, p 25 0, p 26 0, p 27 0, p 28 0, p 29 0, p 30 0] 79)
noncomputable def Gsrb_e4 : Nat × AO := (21, R [p 31 0] 72)
noncomputable def Gsrb_e5 : Nat × AO := (31, r [p 32 0, p 33 0, ff] 84)
noncomputable def Gsrb_e6 : Nat × AO := (32, r [i 1048576, l 34 0 1 INF, i 4, i 0] 200)
noncomputable def Gsrb_e7 : Nat × AO := (34, R [p 35 0] 132)
noncomputable def Gsrb_e8 : Nat × AO := (35, r [sb 4 0x30676573, l 36 0 50 INF, l0] 134)
noncomputable def Gsrb_e9 : Nat × AO := (36, R (bz 50 0x57f31e9a0100057801010161010100030000000cdab4098f07ed02000000039216017f010100000002fb42dead0000000001) 5)
noncomputable def Gsrb_e10 : Nat × AO := (33, r [i 1, i 1, p 37 0, p 38 0, p 39 0, m 40, l0, m 41, i 0, i 0, ff, l0, l0] 188)
noncomputable def Gsrb_e11 : Nat × AO := (37, r [p 42 0, p 43 0, p 44 0] 329)
noncomputable def Gsrb_e12 : Nat × AO := (42, r [p 32 0, l 45 0 3 INF, l 46 0 1 INF, i 17, ff, ff] 475)
noncomputable def Gsrb_e13 : Nat × AO := (45, R [l 47 0 2 INF, l 48 0 3 INF, l 49 0 12 INF] 29)
noncomputable def Gsrb_e14 : Nat × AO := (47, R (bz 2 0x0101) 5)
noncomputable def Gsrb_e15 : Nat × AO := (48, R (bz 3 0x07ed02) 5)
noncomputable def Gsrb_e16 : Nat × AO := (49, R (bz 12 0x010005780101016101010003) 5)
noncomputable def Gsrb_e17 : Nat × AO := (46, R [i 0] 3)
noncomputable def Gsrb_e18 : Nat × AO := (43, r [i 1, i 1, i 1, i 1005, l 50 0 1 INF, p 51 0, m0, m0, m0, l0, l 52 0 1 INF] 251)
noncomputable def Gsrb_e19 : Nat × AO := (50, R [i 0, i 4294967295, i 1, i 1] 61)
noncomputable def Gsrb_e20 : Nat × AO := (51, r [m 53] 562)
noncomputable def Gsrb_e21 : Nat × AO := (53, .obj (.map ⟨[⟨sb 1 0x61, p 54 0, 0⟩]⟩ 1))
noncomputable def Gsrb_e22 : Nat × AO := (54, r [l 55 0 1 INF, m 56] 557)
noncomputable def Gsrb_e23 : Nat × AO := (55, R [sb 1 0x61, i 1, sb 1 0x78, i 5, i 0, i 1, i 0] 152)
noncomputable def Gsrb_e24 : Nat × AO := (56, .obj (.map ⟨[]⟩ 0))
noncomputable def Gsrb_e25 : Nat × AO := (52, R [sb 1 0x61, i 1, sb 1 0x78, i 5, i 0, i 1, i 0] 152)
noncomputable def Gsrb_e26 : Nat × AO := (44, r [i 1, i 1, i 1, i 1005, l 57 0 1 INF, p 58 0, m0, m0, m0, l0, l 59 0 1 INF] 251)
noncomputable def Gsrb_e27 : Nat × AO := (57, R [i 0, i 4294967295, i 1, i 1] 61)
noncomputable def Gsrb_e28 : Nat × AO := (58, r [m 60] 562)
noncomputable def Gsrb_e29 : Nat × AO := (60, .obj (.map ⟨[⟨sb 1 0x61, p 61 0, 0⟩]⟩ 1))
noncomputable def Gsrb_e30 : Nat × AO := (61, r [l 62 0 1 INF, m 63] 557)
noncomputable def Gsrb_e31 : Nat × AO := (62, R [sb 1 0x61, i 1, sb 1 0x78, i 5, i 0, i 1, i 0] 152)
noncomputable def Gsrb_e32 : Nat × AO := (63, .obj (.map ⟨[]⟩ 0))
noncomputable def Gsrb_e33 : Nat × AO := (59, R [sb 1 0x61, i 1, sb 1 0x78, i 5, i 0, i 1, i 0] 152)
noncomputable def Gsrb_e34 : Nat × AO := (38, r [i 5, i 5, i 0, i 1] 281)
noncomputable def Gsrb_e35 : Nat × AO := (39, r [i 1, l 64 0 2 2] 335)
noncomputable def Gsrb_e36 : Nat × AO := (64, r [l0, i 0, i 0, i 0, l0, i 0, i 0, i 0] 373)
noncomputable def Gsrb_e37 : Nat × AO := (40, .obj (.map ⟨[]⟩ 0))
noncomputable def Gsrb_e38 : Nat × AO := (41, .obj (.map ⟨[]⟩ 0))
noncomputable def Gsrb_e39 : Nat × AO := (22, r [i 1, m 65, i 5, i 0, i 1, i 0, i 0, i 0, i 0, s0, l0, l 66 0 1 INF] 176)
noncomputable def Gsrb_e40 : Nat × AO := (65, .obj (.map ⟨[]⟩ 1))
noncomputable def Gsrb_e41 : Nat × AO := (66, R [i 0, i 1, i 0, i 5, i 0, i 1, l 67 0 1 INF, l0, i 0, i 0, i 0, i 0, s0, l0, i 0] 148)
noncomputable def Gsrb_e42 : Nat × AO := (67, R [i 1] 3)
noncomputable def Gsrb_e43 : Nat × AO := (23, r [i 0, m0, i 0, i 0, i 0, i 0, i 0, i 0, i 0, s0, l0, l0] 176)
noncomputable def Gsrb_e44 : Nat × AO := (24, r [i 0, m0, i 0, i 0, i 0, i 0, i 0, i 0, i 0, s0, l0, l0] 176)
noncomputable def Gsrb_e45 : Nat × AO := (25, r [i 0, m0, i 0, i 0, i 0, i 0, i 0, i 0, i 0, s0, l0, l0] 176)
noncomputable def Gsrb_e46 : Nat × AO := (26, r [i 0, m0, i 0, i 0, i 0, i 0, i 0, i 0, i 0, s0, l0, l0] 176)
noncomputable def Gsrb_e47 : Nat × AO := (27, r [i 0, m0, i 0, i 0, i 0, i 0, i 0, i 0, i 0, s0, l0, l0] 176)
noncomputable def Gsrb_e48 : Nat × AO := (28, r [i 0, m0, i 0, i 0, i 0, i 0, i 0, i 0, i 0, s0, l0, l0] 176)
noncomputable def Gsrb_e49 : Nat × AO := (29, r [i 0, m0, i 0, i 0, i 0, i 0, i 0, i 0, i 0, s0, l0, l0] 176)
noncomputable def Gsrb_e50 : Nat × AO := (30, r [l0] 129)
noncomputable def Gsrb_e51 : Nat × AO := (31, r [p 70 0, p0, ff] 84)
noncomputable def Gsrb_e52 : Nat × AO := (70, r [i 1048576, l 76 0 1 INF, i 0, i 0] 200)
noncomputable def Gsrb_e53 : Nat × AO := (76, R [p 74 0] 132)
noncomputable def Gsrb_e54 : Nat × AO := (74, r [sb 4 0x30676573, l 73 0 50 INF, l0] 134)
noncomputable def Gsrb_e55 : Nat × AO := (73, R (bz 50 0x57f31e9a0100057801010161010100030000000cdab4098f07ed02000000039216017f010100000002fb42dead0000000001) 5)
noncomputable def Gsrb_2 : Seg := ⟨17, [p 20 0, i 1, .slice (some ⟨0,0,some 0⟩) 0 0], [Gsrb_e3, Gsrb_e4, Gsrb_e5, Gsrb_e6, Gsrb_e7, Gsrb_e8, Gsrb_e9, Gsrb_e10, Gsrb_e11, Gsrb_e12, Gsrb_e13, Gsrb_e14, Gsrb_e15, Gsrb_e16, Gsrb_e17, Gsrb_e18, Gsrb_e19, Gsrb_e20, Gsrb_e21, Gsrb_e22, Gsrb_e23, Gsrb_e24, Gsrb_e25, Gsrb_e26, Gsrb_e27, Gsrb_e28, Gsrb_e29, Gsrb_e30, Gsrb_e31, Gsrb_e32, Gsrb_e33, Gsrb_e34, Gsrb_e35, Gsrb_e36, Gsrb_e37, Gsrb_e38, Gsrb_e39, Gsrb_e40, Gsrb_e41, Gsrb_e42, Gsrb_e43, Gsrb_e44, Gsrb_e45, Gsrb_e46, Gsrb_e47, Gsrb_e48, Gsrb_e49, Gsrb_e50], 68, i 0, [Gsrb_e51, Gsrb_e52, Gsrb_e53, Gsrb_e54, Gsrb_e55], 77⟩
theorem Gsrb_2_ok : segOk Tryz.prog 20 (orK (KTx 22 99) (orK (KM 20 [211, 212, 214] Gsqa_s) (orK (KM 20 [211, 212, 214] Gsqb_s) (KM 20 [211, 212, 214] Gsqc_s)))) 10000000 Gsrb_2 = true := by kernel_rfl
noncomputable def Gsrb_e56 : Nat × AO := (20, r [sb 4 0x65646f6e, sb 1 0x31] 9)
noncomputable def Gsrb_3 : Seg := ⟨14, [l 20 1 1 1], [Gsrb_e56], 21, .tuple ⟨[l 23 0 1 INF, tt]⟩, [Gsrb_e2], 24⟩
theorem Gsrb_3_ok : segOk Tryz.prog 20 (orK (KTx 22 99) (orK (KM 20 [211, 212, 214] Gsqa_s) (orK (KM 20 [211, 212, 214] Gsqb_s) (KM 20 [211, 212, 214] Gsqc_s)))) 10000000 Gsrb_3 = true := by kernel_rfl
noncomputable def Gsrb_e57 : Nat × AO := (20, r [sb 1 0x31, sb 1 0x31, sb 11 0x7d6c696e3a2270616d227b] 9)
noncomputable def Gsrb_e58 : Nat × AO := (26, R [i 1, i 1] 3)
noncomputable def Gsrb_4 : Seg := ⟨14, [l 20 0 2 3], [Gsrb_e57], 21, .tuple ⟨[l 26 0 2 INF, tt]⟩, [Gsrb_e58], 27⟩
theorem Gsrb_4_ok : segOk Tryz.prog 20 (orK (KTx 22 99) (orK (KM 20 [211, 212, 214] Gsqa_s) (orK (KM 20 [211, 212, 214] Gsqb_s) (KM 20 [211, 212, 214] Gsqc_s)))) 10000000 Gsrb_4 = true := by kernel_rfl
noncomputable def Gsrb_5 : Seg := ⟨26, [sb 11 0x7d6c696e3a2270616d227b], [], 20, .tuple ⟨[.agg ⟨[i 6, i 0, i 0, i 0, s0, l0, s0, i 0, i 0, i 0, i 0, i 0, s0, s0, i 0, i 0, i 0, i 0, i 0, i 0]⟩, i 0]⟩, [], 72⟩
theorem Gsrb_5_ok : segOk Tryz.prog 20 (orK (KTx 22 99) (orK (KM 20 [211, 212, 214] Gsqa_s) (orK (KM 20 [211, 212, 214] Gsqb_s) (KM 20 [211, 212, 214] Gsqc_s)))) 10000000 Gsrb_5 = true := by kernel_rfl
noncomputable def Gsrb_s : List Seg := [Gsrb_0, Gsrb_1, Gsrb_2, Gsrb_3, Gsrb_4, Gsrb_5]
theorem Gsrb_good {V : Nat} : ∀ g ∈ Gsrb_s, Good Tryz.prog 20 V g := good_cons (good_of follows (known_or (known_KTx cntC idxC) (known_or (known_KM Gsqa_good) (known_or (known_KM Gsqb_good) (known_KM Gsqc_good)))) Gsrb_0_ok) (good_cons (good_of follows (known_or (known_KTx cntC idxC) (known_or (known_KM Gsqa_good) (known_or (known_KM Gsqb_good) (known_KM Gsqc_good)))) Gsrb_1_ok) (good_cons (good_of follows (known_or (known_KTx cntC idxC) (known_or (known_KM Gsqa_good) (known_or (known_KM Gsqb_good) (known_KM Gsqc_good)))) Gsrb_2_ok) (good_cons (good_of follows (known_or (known_KTx cntC idxC) (known_or (known_KM Gsqa_good) (known_or (known_KM Gsqb_good) (known_KM Gsqc_good)))) Gsrb_3_ok) (good_cons (good_of follows (known_or (known_KTx cntC idxC) (known_or (known_KM Gsqa_good) (known_or (known_KM Gsqb_good) (known_KM Gsqc_good)))) Gsrb_4_ok) (good_cons (good_of follows (known_or (known_KTx cntC idxC) (known_or (known_KM Gsqa_good) (known_or (known_KM Gsqb_good) (known_KM Gsqc_good)))) Gsrb_5_ok) (good_nil))))))
end Go.Proofs.YtkmjdfcfcfmkdaaGreatDoor.X
