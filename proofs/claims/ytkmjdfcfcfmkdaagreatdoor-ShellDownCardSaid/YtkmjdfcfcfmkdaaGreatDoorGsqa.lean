/- ShellDown: what the records do, run once. -/
import Derived.Test.YtkmjdfcfcfmkdaaGreatDoorKmt
namespace Go.Proofs.YtkmjdfcfcfmkdaaGreatDoor.X
open Go.RowKit S
noncomputable def Gsqa_e0 : Nat × AO := (20, r [i 1, i 1, i 0, i 0, l 21 0 1 INF, p 22 0, m0, m0, m0, l0, l0] 251)
noncomputable def Gsqa_e1 : Nat × AO := (21, R [i 0, i 4294967295, i 1, i 1] 61)
noncomputable def Gsqa_e2 : Nat × AO := (22, r [m0] 562)
noncomputable def Gsqa_e3 : Nat × AO := (20, r [i 1, i 1, i 1, i 0, l 21 0 1 INF, p 22 0, m0, m0, m0, l0, l0] 251)
noncomputable def Gsqa_0 : Seg := ⟨212, [p 20 0, .agg ⟨[i 1, i 1, i 0, ff, i 0, i 0, i 0, i 0, i 0, i 0, l0, s0, l0, i 0, i 0, i 0, i 0, l0]⟩], [Gsqa_e0, Gsqa_e1, Gsqa_e2], 23, i 0, [Gsqa_e3], 40⟩
theorem Gsqa_0_ok : segOk Tryz.prog 20 (Kno) 10000000 Gsqa_0 = true := by kernel_rfl
noncomputable def Gsqa_e4 : Nat × AO := (32, R (bz 2 0x0101) 5)
noncomputable def Gsqa_1 : Seg := ⟨214, [.agg ⟨[i 1, i 1, i 0, ff, i 0, i 0, i 0, i 0, i 0, i 0, l0, s0, l0, i 0, i 0, i 0, i 0, l0]⟩], [], 20, .tuple ⟨[l 32 0 2 INF, i 0]⟩, [Gsqa_e4], 35⟩
theorem Gsqa_1_ok : segOk Tryz.prog 20 (Kno) 10000000 Gsqa_1 = true := by kernel_rfl
noncomputable def Gsqa_e5 : Nat × AO := (20, r [i 1, i 1, i 1, i 1005, l 21 0 1 INF, p 22 0, m0, m0, m0, l0, l0] 251)
noncomputable def Gsqa_2 : Seg := ⟨212, [p 20 0, .agg ⟨[i 2, i 1005, i 0, ff, i 0, i 0, i 0, i 0, i 0, i 0, l0, s0, l0, i 0, i 0, i 0, i 0, l0]⟩], [Gsqa_e3, Gsqa_e1, Gsqa_e2], 23, i 0, [Gsqa_e5], 42⟩
theorem Gsqa_2_ok : segOk Tryz.prog 20 (Kno) 10000000 Gsqa_2 = true := by kernel_rfl
noncomputable def Gsqa_e6 : Nat × AO := (34, R (bz 3 0x07ed02) 5)
noncomputable def Gsqa_3 : Seg := ⟨214, [.agg ⟨[i 2, i 1005, i 0, ff, i 0, i 0, i 0, i 0, i 0, i 0, l0, s0, l0, i 0, i 0, i 0, i 0, l0]⟩], [], 20, .tuple ⟨[l 34 0 3 INF, i 0]⟩, [Gsqa_e6], 37⟩
theorem Gsqa_3_ok : segOk Tryz.prog 20 (Kno) 10000000 Gsqa_3 = true := by kernel_rfl
noncomputable def Gsqa_e7 : Nat × AO := (20, r [i 1, i 1, i 1, i 1005, l 22 0 1 INF, p 23 0, m0, m0, m0, l0, l0] 251)
noncomputable def Gsqa_e8 : Nat × AO := (22, R [i 0, i 4294967295, i 1, i 1] 61)
noncomputable def Gsqa_e9 : Nat × AO := (23, r [m0] 562)
noncomputable def Gsqa_e10 : Nat × AO := (21, R [sb 1 0x61, .int .i64 (.negSucc 0), l 24 0 1 INF] 277)
noncomputable def Gsqa_e11 : Nat × AO := (24, R [sb 1 0x78] 9)
noncomputable def Gsqa_e12 : Nat × AO := (20, r [i 1, i 1, i 1, i 1005, l 22 0 1 INF, p 119 0, m0, m0, m0, l0, l 135 0 1 INF] 251)
noncomputable def Gsqa_e13 : Nat × AO := (119, r [m 129] 562)
noncomputable def Gsqa_e14 : Nat × AO := (129, .obj (.map ⟨[⟨sb 1 0x61, p 174 0, 0⟩]⟩ 1))
noncomputable def Gsqa_e15 : Nat × AO := (174, r [l 175 0 1 INF, m 173] 557)
noncomputable def Gsqa_e16 : Nat × AO := (175, R [sb 1 0x61, i 1, sb 1 0x78, i 5, i 0, i 1, i 0] 152)
noncomputable def Gsqa_e17 : Nat × AO := (173, .obj (.map ⟨[]⟩ 0))
noncomputable def Gsqa_e18 : Nat × AO := (135, R [sb 1 0x61, i 1, sb 1 0x78, i 5, i 0, i 1, i 0] 152)
noncomputable def Gsqa_4 : Seg := ⟨212, [p 20 0, .agg ⟨[i 3, i 0, i 0, ff, i 5, i 0, i 1, i 0, i 0, i 0, l0, s0, l 21 0 1 INF, i 0, i 0, i 0, i 0, l0]⟩], [Gsqa_e7, Gsqa_e8, Gsqa_e9, Gsqa_e10, Gsqa_e11], 25, i 0, [Gsqa_e12, Gsqa_e13, Gsqa_e14, Gsqa_e15, Gsqa_e16, Gsqa_e17, Gsqa_e18], 177⟩
theorem Gsqa_4_ok : segOk Tryz.prog 20 (Kno) 10000000 Gsqa_4 = true := by kernel_rfl
noncomputable def Gsqa_e19 : Nat × AO := (20, R [sb 1 0x61, .int .i64 (.negSucc 0), l 21 0 1 INF] 277)
noncomputable def Gsqa_e20 : Nat × AO := (21, R [sb 1 0x78] 9)
noncomputable def Gsqa_e21 : Nat × AO := (80, R (bz 12 0x010005780101016101010003) 5)
noncomputable def Gsqa_5 : Seg := ⟨214, [.agg ⟨[i 3, i 0, i 0, ff, i 5, i 0, i 1, i 0, i 0, i 0, l0, s0, l 20 0 1 INF, i 0, i 0, i 0, i 0, l0]⟩], [Gsqa_e19, Gsqa_e20], 22, .tuple ⟨[l 80 0 12 INF, i 0]⟩, [Gsqa_e21], 83⟩
theorem Gsqa_5_ok : segOk Tryz.prog 20 (Kno) 10000000 Gsqa_5 = true := by kernel_rfl
noncomputable def Gsqa_e22 : Nat × AO := (20, R (bz 2 0x0101) 5)
noncomputable def Gsqa_6 : Seg := ⟨211, [l 20 0 2 INF], [Gsqa_e22], 21, .tuple ⟨[.agg ⟨[i 1, i 1, i 0, ff, i 0, i 0, i 0, i 0, i 0, i 0, l0, s0, l0, i 0, i 0, i 0, i 0, l0]⟩, i 0]⟩, [], 44⟩
theorem Gsqa_6_ok : segOk Tryz.prog 20 (Kno) 10000000 Gsqa_6 = true := by kernel_rfl
noncomputable def Gsqa_e23 : Nat × AO := (20, R (bz 3 0x07ed02) 5)
noncomputable def Gsqa_7 : Seg := ⟨211, [l 20 0 3 INF], [Gsqa_e23], 21, .tuple ⟨[.agg ⟨[i 2, i 1005, i 0, ff, i 0, i 0, i 0, i 0, i 0, i 0, l0, s0, l0, i 0, i 0, i 0, i 0, l0]⟩, i 0]⟩, [], 46⟩
theorem Gsqa_7_ok : segOk Tryz.prog 20 (Kno) 10000000 Gsqa_7 = true := by kernel_rfl
noncomputable def Gsqa_e24 : Nat × AO := (20, R (bz 12 0x010005780101016101010003) 5)
noncomputable def Gsqa_e25 : Nat × AO := (33, R [sb 1 0x61, .int .i64 (.negSucc 0), l 31 0 1 INF] 277)
noncomputable def Gsqa_e26 : Nat × AO := (31, R [sb 1 0x78] 9)
noncomputable def Gsqa_8 : Seg := ⟨211, [l 20 0 12 INF], [Gsqa_e24], 21, .tuple ⟨[.agg ⟨[i 3, i 0, i 0, ff, i 5, i 0, i 1, i 0, i 0, i 0, l0, s0, l 33 0 1 INF, i 0, i 0, i 0, i 0, l0]⟩, i 0]⟩, [Gsqa_e25, Gsqa_e26], 111⟩
theorem Gsqa_8_ok : segOk Tryz.prog 20 (Kno) 10000000 Gsqa_8 = true := by kernel_rfl
noncomputable def Gsqa_e27 : Nat × AO := (20, r [i 1, i 1, i 1, i 1005, l 21 0 1 INF, p 22 0, m0, m0, m0, l0, l 23 0 1 INF] 251)
noncomputable def Gsqa_e28 : Nat × AO := (22, r [m 24] 562)
noncomputable def Gsqa_e29 : Nat × AO := (24, .obj (.map ⟨[⟨sb 1 0x61, p 25 0, 0⟩]⟩ 1))
noncomputable def Gsqa_e30 : Nat × AO := (25, r [l 26 0 1 INF, m 27] 557)
noncomputable def Gsqa_e31 : Nat × AO := (26, R [sb 1 0x61, i 1, sb 1 0x78, i 5, i 0, i 1, i 0] 152)
noncomputable def Gsqa_e32 : Nat × AO := (27, .obj (.map ⟨[]⟩ 0))
noncomputable def Gsqa_e33 : Nat × AO := (23, R [sb 1 0x61, i 1, sb 1 0x78, i 5, i 0, i 1, i 0] 152)
noncomputable def Gsqa_e34 : Nat × AO := (20, r [i 1, i 1, i 2, i 1005, l 21 0 1 INF, p 22 0, m0, m0, m0, l0, l 23 0 1 INF] 251)
noncomputable def Gsqa_9 : Seg := ⟨212, [p 20 0, .agg ⟨[i 1, i 2, i 0, ff, i 0, i 0, i 0, i 0, i 0, i 0, l0, s0, l0, i 0, i 0, i 0, i 0, l0]⟩], [Gsqa_e27, Gsqa_e1, Gsqa_e28, Gsqa_e29, Gsqa_e30, Gsqa_e31, Gsqa_e32, Gsqa_e33], 28, i 0, [Gsqa_e34], 45⟩
theorem Gsqa_9_ok : segOk Tryz.prog 20 (Kno) 10000000 Gsqa_9 = true := by kernel_rfl
noncomputable def Gsqa_e35 : Nat × AO := (32, R (bz 2 0x0201) 5)
noncomputable def Gsqa_10 : Seg := ⟨214, [.agg ⟨[i 1, i 2, i 0, ff, i 0, i 0, i 0, i 0, i 0, i 0, l0, s0, l0, i 0, i 0, i 0, i 0, l0]⟩], [], 20, .tuple ⟨[l 32 0 2 INF, i 0]⟩, [Gsqa_e35], 35⟩
theorem Gsqa_10_ok : segOk Tryz.prog 20 (Kno) 10000000 Gsqa_10 = true := by kernel_rfl
noncomputable def Gsqa_e36 : Nat × AO := (20, r [i 1, i 1, i 2, i 2006, l 21 0 1 INF, p 22 0, m0, m0, m0, l0, l 23 0 1 INF] 251)
noncomputable def Gsqa_11 : Seg := ⟨212, [p 20 0, .agg ⟨[i 2, i 2006, i 0, ff, i 0, i 0, i 0, i 0, i 0, i 0, l0, s0, l0, i 0, i 0, i 0, i 0, l0]⟩], [Gsqa_e34, Gsqa_e1, Gsqa_e28, Gsqa_e29, Gsqa_e30, Gsqa_e31, Gsqa_e32, Gsqa_e33], 28, i 0, [Gsqa_e36], 47⟩
theorem Gsqa_11_ok : segOk Tryz.prog 20 (Kno) 10000000 Gsqa_11 = true := by kernel_rfl
noncomputable def Gsqa_e37 : Nat × AO := (34, R (bz 3 0x0fd602) 5)
noncomputable def Gsqa_12 : Seg := ⟨214, [.agg ⟨[i 2, i 2006, i 0, ff, i 0, i 0, i 0, i 0, i 0, i 0, l0, s0, l0, i 0, i 0, i 0, i 0, l0]⟩], [], 20, .tuple ⟨[l 34 0 3 INF, i 0]⟩, [Gsqa_e37], 37⟩
theorem Gsqa_12_ok : segOk Tryz.prog 20 (Kno) 10000000 Gsqa_12 = true := by kernel_rfl
noncomputable def Gsqa_e38 : Nat × AO := (20, R (bz 2 0x0201) 5)
noncomputable def Gsqa_13 : Seg := ⟨211, [l 20 0 2 INF], [Gsqa_e38], 21, .tuple ⟨[.agg ⟨[i 1, i 2, i 0, ff, i 0, i 0, i 0, i 0, i 0, i 0, l0, s0, l0, i 0, i 0, i 0, i 0, l0]⟩, i 0]⟩, [], 44⟩
theorem Gsqa_13_ok : segOk Tryz.prog 20 (Kno) 10000000 Gsqa_13 = true := by kernel_rfl
noncomputable def Gsqa_e39 : Nat × AO := (20, R (bz 3 0x0fd602) 5)
noncomputable def Gsqa_14 : Seg := ⟨211, [l 20 0 3 INF], [Gsqa_e39], 21, .tuple ⟨[.agg ⟨[i 2, i 2006, i 0, ff, i 0, i 0, i 0, i 0, i 0, i 0, l0, s0, l0, i 0, i 0, i 0, i 0, l0]⟩, i 0]⟩, [], 46⟩
theorem Gsqa_14_ok : segOk Tryz.prog 20 (Kno) 10000000 Gsqa_14 = true := by kernel_rfl
noncomputable def Gsqa_e40 : Nat × AO := (20, r [i 1, i 1, i 3, i 2006, l 21 0 1 INF, p 22 0, m0, m0, m0, l0, l 23 0 1 INF] 251)
noncomputable def Gsqa_15 : Seg := ⟨212, [p 20 0, .agg ⟨[i 1, i 3, i 0, ff, i 0, i 0, i 0, i 0, i 0, i 0, l0, s0, l0, i 0, i 0, i 0, i 0, l0]⟩], [Gsqa_e36, Gsqa_e1, Gsqa_e28, Gsqa_e29, Gsqa_e30, Gsqa_e31, Gsqa_e32, Gsqa_e33], 28, i 0, [Gsqa_e40], 45⟩
theorem Gsqa_15_ok : segOk Tryz.prog 20 (Kno) 10000000 Gsqa_15 = true := by kernel_rfl
noncomputable def Gsqa_e41 : Nat × AO := (32, R (bz 2 0x0301) 5)
noncomputable def Gsqa_16 : Seg := ⟨214, [.agg ⟨[i 1, i 3, i 0, ff, i 0, i 0, i 0, i 0, i 0, i 0, l0, s0, l0, i 0, i 0, i 0, i 0, l0]⟩], [], 20, .tuple ⟨[l 32 0 2 INF, i 0]⟩, [Gsqa_e41], 35⟩
theorem Gsqa_16_ok : segOk Tryz.prog 20 (Kno) 10000000 Gsqa_16 = true := by kernel_rfl
noncomputable def Gsqa_e42 : Nat × AO := (20, r [i 1, i 1, i 3, i 3007, l 21 0 1 INF, p 22 0, m0, m0, m0, l0, l 23 0 1 INF] 251)
noncomputable def Gsqa_17 : Seg := ⟨212, [p 20 0, .agg ⟨[i 2, i 3007, i 0, ff, i 0, i 0, i 0, i 0, i 0, i 0, l0, s0, l0, i 0, i 0, i 0, i 0, l0]⟩], [Gsqa_e40, Gsqa_e1, Gsqa_e28, Gsqa_e29, Gsqa_e30, Gsqa_e31, Gsqa_e32, Gsqa_e33], 28, i 0, [Gsqa_e42], 47⟩
theorem Gsqa_17_ok : segOk Tryz.prog 20 (Kno) 10000000 Gsqa_17 = true := by kernel_rfl
noncomputable def Gsqa_e43 : Nat × AO := (34, R (bz 3 0x17bf02) 5)
noncomputable def Gsqa_18 : Seg := ⟨214, [.agg ⟨[i 2, i 3007, i 0, ff, i 0, i 0, i 0, i 0, i 0, i 0, l0, s0, l0, i 0, i 0, i 0, i 0, l0]⟩], [], 20, .tuple ⟨[l 34 0 3 INF, i 0]⟩, [Gsqa_e43], 37⟩
theorem Gsqa_18_ok : segOk Tryz.prog 20 (Kno) 10000000 Gsqa_18 = true := by kernel_rfl
noncomputable def Gsqa_e44 : Nat × AO := (20, R (bz 2 0x0301) 5)
noncomputable def Gsqa_19 : Seg := ⟨211, [l 20 0 2 INF], [Gsqa_e44], 21, .tuple ⟨[.agg ⟨[i 1, i 3, i 0, ff, i 0, i 0, i 0, i 0, i 0, i 0, l0, s0, l0, i 0, i 0, i 0, i 0, l0]⟩, i 0]⟩, [], 44⟩
theorem Gsqa_19_ok : segOk Tryz.prog 20 (Kno) 10000000 Gsqa_19 = true := by kernel_rfl
noncomputable def Gsqa_e45 : Nat × AO := (20, R (bz 3 0x17bf02) 5)
noncomputable def Gsqa_20 : Seg := ⟨211, [l 20 0 3 INF], [Gsqa_e45], 21, .tuple ⟨[.agg ⟨[i 2, i 3007, i 0, ff, i 0, i 0, i 0, i 0, i 0, i 0, l0, s0, l0, i 0, i 0, i 0, i 0, l0]⟩, i 0]⟩, [], 46⟩
theorem Gsqa_20_ok : segOk Tryz.prog 20 (Kno) 10000000 Gsqa_20 = true := by kernel_rfl
noncomputable def Gsqa_e46 : Nat × AO := (20, r [i 1, i 1, i 4, i 3007, l 21 0 1 INF, p 22 0, m0, m0, m0, l0, l 23 0 1 INF] 251)
noncomputable def Gsqa_21 : Seg := ⟨212, [p 20 0, .agg ⟨[i 1, i 4, i 0, ff, i 0, i 0, i 0, i 0, i 0, i 0, l0, s0, l0, i 0, i 0, i 0, i 0, l0]⟩], [Gsqa_e42, Gsqa_e1, Gsqa_e28, Gsqa_e29, Gsqa_e30, Gsqa_e31, Gsqa_e32, Gsqa_e33], 28, i 0, [Gsqa_e46], 45⟩
theorem Gsqa_21_ok : segOk Tryz.prog 20 (Kno) 10000000 Gsqa_21 = true := by kernel_rfl
noncomputable def Gsqa_e47 : Nat × AO := (32, R (bz 2 0x0401) 5)
noncomputable def Gsqa_22 : Seg := ⟨214, [.agg ⟨[i 1, i 4, i 0, ff, i 0, i 0, i 0, i 0, i 0, i 0, l0, s0, l0, i 0, i 0, i 0, i 0, l0]⟩], [], 20, .tuple ⟨[l 32 0 2 INF, i 0]⟩, [Gsqa_e47], 35⟩
theorem Gsqa_22_ok : segOk Tryz.prog 20 (Kno) 10000000 Gsqa_22 = true := by kernel_rfl
noncomputable def Gsqa_e48 : Nat × AO := (20, r [i 1, i 1, i 4, i 4008, l 21 0 1 INF, p 22 0, m0, m0, m0, l0, l 23 0 1 INF] 251)
noncomputable def Gsqa_23 : Seg := ⟨212, [p 20 0, .agg ⟨[i 2, i 4008, i 0, ff, i 0, i 0, i 0, i 0, i 0, i 0, l0, s0, l0, i 0, i 0, i 0, i 0, l0]⟩], [Gsqa_e46, Gsqa_e1, Gsqa_e28, Gsqa_e29, Gsqa_e30, Gsqa_e31, Gsqa_e32, Gsqa_e33], 28, i 0, [Gsqa_e48], 47⟩
theorem Gsqa_23_ok : segOk Tryz.prog 20 (Kno) 10000000 Gsqa_23 = true := by kernel_rfl
noncomputable def Gsqa_s : List Seg := [Gsqa_0, Gsqa_1, Gsqa_2, Gsqa_3, Gsqa_4, Gsqa_5, Gsqa_6, Gsqa_7, Gsqa_8, Gsqa_9, Gsqa_10, Gsqa_11, Gsqa_12, Gsqa_13, Gsqa_14, Gsqa_15, Gsqa_16, Gsqa_17, Gsqa_18, Gsqa_19, Gsqa_20, Gsqa_21, Gsqa_22, Gsqa_23]
theorem Gsqa_good {V : Nat} : ∀ g ∈ Gsqa_s, Good Tryz.prog 20 V g := good_cons (good_of follows (known_no) Gsqa_0_ok) (good_cons (good_of follows (known_no) Gsqa_1_ok) (good_cons (good_of follows (known_no) Gsqa_2_ok) (good_cons (good_of follows (known_no) Gsqa_3_ok) (good_cons (good_of follows (known_no) Gsqa_4_ok) (good_cons (good_of follows (known_no) Gsqa_5_ok) (good_cons (good_of follows (known_no) Gsqa_6_ok) (good_cons (good_of follows (known_no) Gsqa_7_ok) (good_cons (good_of follows (known_no) Gsqa_8_ok) (good_cons (good_of follows (known_no) Gsqa_9_ok) (good_cons (good_of follows (known_no) Gsqa_10_ok) (good_cons (good_of follows (known_no) Gsqa_11_ok) (good_cons (good_of follows (known_no) Gsqa_12_ok) (good_cons (good_of follows (known_no) Gsqa_13_ok) (good_cons (good_of follows (known_no) Gsqa_14_ok) (good_cons (good_of follows (known_no) Gsqa_15_ok) (good_cons (good_of follows (known_no) Gsqa_16_ok) (good_cons (good_of follows (known_no) Gsqa_17_ok) (good_cons (good_of follows (known_no) Gsqa_18_ok) (good_cons (good_of follows (known_no) Gsqa_19_ok) (good_cons (good_of follows (known_no) Gsqa_20_ok) (good_cons (good_of follows (known_no) Gsqa_21_ok) (good_cons (good_of follows (known_no) Gsqa_22_ok) (good_cons (good_of follows (known_no) Gsqa_23_ok) (good_nil))))))))))))))))))))))))
end Go.Proofs.YtkmjdfcfcfmkdaaGreatDoor.X
