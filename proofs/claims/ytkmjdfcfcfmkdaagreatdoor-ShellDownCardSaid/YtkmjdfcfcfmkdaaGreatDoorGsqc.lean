/- ShellDown: what the records do, run once. -/
import Derived.Test.YtkmjdfcfcfmkdaaGreatDoorKmt
namespace Go.Proofs.YtkmjdfcfcfmkdaaGreatDoor.X
open Go.RowKit S
noncomputable def Gsqc_e0 : Nat × AO := (34, R (bz 3 0x3ecc02) 5)
noncomputable def Gsqc_0 : Seg := ⟨214, [.agg ⟨[i 2, i 8012, i 0, ff, i 0, i 0, i 0, i 0, i 0, i 0, l0, s0, l0, i 0, i 0, i 0, i 0, l0]⟩], [], 20, .tuple ⟨[l 34 0 3 INF, i 0]⟩, [Gsqc_e0], 37⟩
theorem Gsqc_0_ok : segOk Tryz.prog 20 (Kno) 10000000 Gsqc_0 = true := by kernel_rfl
noncomputable def Gsqc_e1 : Nat × AO := (20, R (bz 2 0x0801) 5)
noncomputable def Gsqc_1 : Seg := ⟨211, [l 20 0 2 INF], [Gsqc_e1], 21, .tuple ⟨[.agg ⟨[i 1, i 8, i 0, ff, i 0, i 0, i 0, i 0, i 0, i 0, l0, s0, l0, i 0, i 0, i 0, i 0, l0]⟩, i 0]⟩, [], 44⟩
theorem Gsqc_1_ok : segOk Tryz.prog 20 (Kno) 10000000 Gsqc_1 = true := by kernel_rfl
noncomputable def Gsqc_e2 : Nat × AO := (20, R (bz 3 0x3ecc02) 5)
noncomputable def Gsqc_2 : Seg := ⟨211, [l 20 0 3 INF], [Gsqc_e2], 21, .tuple ⟨[.agg ⟨[i 2, i 8012, i 0, ff, i 0, i 0, i 0, i 0, i 0, i 0, l0, s0, l0, i 0, i 0, i 0, i 0, l0]⟩, i 0]⟩, [], 46⟩
theorem Gsqc_2_ok : segOk Tryz.prog 20 (Kno) 10000000 Gsqc_2 = true := by kernel_rfl
noncomputable def Gsqc_e3 : Nat × AO := (20, r [i 1, i 1, i 8, i 8012, l 21 0 1 INF, p 22 0, m0, m0, m0, l0, l 23 0 1 INF] 251)
noncomputable def Gsqc_e4 : Nat × AO := (21, R [i 0, i 4294967295, i 1, i 1] 61)
noncomputable def Gsqc_e5 : Nat × AO := (22, r [m 24] 562)
noncomputable def Gsqc_e6 : Nat × AO := (24, .obj (.map ⟨[⟨sb 1 0x61, p 25 0, 0⟩]⟩ 1))
noncomputable def Gsqc_e7 : Nat × AO := (25, r [l 26 0 1 INF, m 27] 557)
noncomputable def Gsqc_e8 : Nat × AO := (26, R [sb 1 0x61, i 1, sb 1 0x78, i 5, i 0, i 1, i 0] 152)
noncomputable def Gsqc_e9 : Nat × AO := (27, .obj (.map ⟨[]⟩ 0))
noncomputable def Gsqc_e10 : Nat × AO := (23, R [sb 1 0x61, i 1, sb 1 0x78, i 5, i 0, i 1, i 0] 152)
noncomputable def Gsqc_e11 : Nat × AO := (20, r [i 1, i 1, i 9, i 8012, l 21 0 1 INF, p 22 0, m0, m0, m0, l0, l 23 0 1 INF] 251)
noncomputable def Gsqc_3 : Seg := ⟨212, [p 20 0, .agg ⟨[i 1, i 9, i 0, ff, i 0, i 0, i 0, i 0, i 0, i 0, l0, s0, l0, i 0, i 0, i 0, i 0, l0]⟩], [Gsqc_e3, Gsqc_e4, Gsqc_e5, Gsqc_e6, Gsqc_e7, Gsqc_e8, Gsqc_e9, Gsqc_e10], 28, i 0, [Gsqc_e11], 45⟩
theorem Gsqc_3_ok : segOk Tryz.prog 20 (Kno) 10000000 Gsqc_3 = true := by kernel_rfl
noncomputable def Gsqc_e12 : Nat × AO := (32, R (bz 2 0x0901) 5)
noncomputable def Gsqc_4 : Seg := ⟨214, [.agg ⟨[i 1, i 9, i 0, ff, i 0, i 0, i 0, i 0, i 0, i 0, l0, s0, l0, i 0, i 0, i 0, i 0, l0]⟩], [], 20, .tuple ⟨[l 32 0 2 INF, i 0]⟩, [Gsqc_e12], 35⟩
theorem Gsqc_4_ok : segOk Tryz.prog 20 (Kno) 10000000 Gsqc_4 = true := by kernel_rfl
noncomputable def Gsqc_e13 : Nat × AO := (20, r [i 1, i 1, i 9, i 9013, l 21 0 1 INF, p 22 0, m0, m0, m0, l0, l 23 0 1 INF] 251)
noncomputable def Gsqc_5 : Seg := ⟨212, [p 20 0, .agg ⟨[i 2, i 9013, i 0, ff, i 0, i 0, i 0, i 0, i 0, i 0, l0, s0, l0, i 0, i 0, i 0, i 0, l0]⟩], [Gsqc_e11, Gsqc_e4, Gsqc_e5, Gsqc_e6, Gsqc_e7, Gsqc_e8, Gsqc_e9, Gsqc_e10], 28, i 0, [Gsqc_e13], 47⟩
theorem Gsqc_5_ok : segOk Tryz.prog 20 (Kno) 10000000 Gsqc_5 = true := by kernel_rfl
noncomputable def Gsqc_e14 : Nat × AO := (34, R (bz 3 0x46b502) 5)
noncomputable def Gsqc_6 : Seg := ⟨214, [.agg ⟨[i 2, i 9013, i 0, ff, i 0, i 0, i 0, i 0, i 0, i 0, l0, s0, l0, i 0, i 0, i 0, i 0, l0]⟩], [], 20, .tuple ⟨[l 34 0 3 INF, i 0]⟩, [Gsqc_e14], 37⟩
theorem Gsqc_6_ok : segOk Tryz.prog 20 (Kno) 10000000 Gsqc_6 = true := by kernel_rfl
noncomputable def Gsqc_s : List Seg := [Gsqc_0, Gsqc_1, Gsqc_2, Gsqc_3, Gsqc_4, Gsqc_5, Gsqc_6]
theorem Gsqc_good {V : Nat} : ∀ g ∈ Gsqc_s, Good Tryz.prog 20 V g := good_cons (good_of follows (known_no) Gsqc_0_ok) (good_cons (good_of follows (known_no) Gsqc_1_ok) (good_cons (good_of follows (known_no) Gsqc_2_ok) (good_cons (good_of follows (known_no) Gsqc_3_ok) (good_cons (good_of follows (known_no) Gsqc_4_ok) (good_cons (good_of follows (known_no) Gsqc_5_ok) (good_cons (good_of follows (known_no) Gsqc_6_ok) (good_nil)))))))
end Go.Proofs.YtkmjdfcfcfmkdaaGreatDoor.X
