/- shell.number: a known call. -/
import Derived.Test.YtkmjdfcfcfmkdaaGreatDoorNux
import Derived.Test.YtkmjdfcfcfmkdaaGreatDoorSat
import Derived.Test.YtkmjdfcfcfmkdaaGreatDoorSit
import Derived.Deep.OwnRows
import Derived.Lib.AppendIntMem
import Derived.Lib.AtoiErrMem
import Derived.Lib.Hide
import Derived.WalkKit
import Derived.ProofKit
namespace Go.Proofs.YtkmjdfcfcfmkdaaGreatDoor.X
open Go.Shelf Go.RowKit
theorem itoaU (v : Int) (w : World) (h0 : -9223372036854775808 ≤ v) (h1 : v ≤ 9223372036854775807) (ht : Lib.TabIs Tryz.prog w "internal/strconv.uint64pow10" .u64 Lib.pow10Tab) :
    Calls Tryz.prog 28 #[.int .i64 v] w fun e w' => e = .returned (.string ⟨(Lib.itoa v).toArray⟩) ∧ Below w.heap.size w w' := by
  have CI := Any.internal_strconv_Itoa Tryz.laysItoa v h0 h1 w ht
  have CI' : Calls Tryz.prog 61 #[.int .i64 v] w fun e w' => e = .returned (.string ⟨(Lib.itoa v).toArray⟩) ∧ Below w.heap.size w w' := CI.mono fun e w' ⟨he, k, os, hw⟩ => ⟨he, hw ▸ Lib.below_grow _ _ (Nat.le_refl _) k os⟩
  clear CI
  go_enter Tryz.func28, Tryz.ntmps28
  go_wp2_with fail
  refine CI'.mono ?_
  rintro e w1 ⟨rfl, hb⟩
  have HB := Lib.hid hb
  clear hb CI'
  go_wp2_with fail
  go_ret
  exact ⟨rfl, HB.out⟩
theorem str_eq (v : Int) (s : ByteArray) (w : World) : (binOp .eql 9 (.string ⟨(Lib.itoa v).toArray⟩) (.string s)).run Tryz.prog w = .ok (.bool (decide (Lib.itoa v = s.data.toList))) w := by
  have : (Lib.itoa v == s.toList) = decide (Lib.itoa v = s.data.toList) := by
    rw [ByteArray.toList_eq, Bool.eq_iff_iff, decide_eq_true_iff, beq_iff_eq]
  simp [binOp, Op.stringOp, this]
theorem numC : NumC Tryz.prog 29 4 5 3 := by
  intro s w ce cr e fz hs hce hie hcr hir hp
  have hgl : 3 < w.heap.size := Nat.lt_of_not_le fun h => by
    rw [Array.getElem?_eq_none h] at hp
    cases hp
  have tab : ∀ W, Below w.heap.size w W → Lib.TabIs Tryz.prog W "internal/strconv.uint64pow10" .u64 Lib.pow10Tab := fun W hW => by
    unfold Lib.TabIs World.var?
    rw [show Tryz.prog.globalNamed "internal/strconv.uint64pow10" = some 3 from by kernel_rfl]
    have h1 : W.heap[3]? = w.heap[3]? := hW.block _ hgl
    rw [Option.bind_some, h1, hp]
  have TAB := Lib.hid tab
  have hlen : (s.size : Int) = s.data.toList.length := rfl
  clear tab hp hgl
  generalize hl : s.data.toList = l at *
  cases ha : Lib.atoiAll l with
  | ok v =>
    have CA := Any.strconv_Atoi_ok Tryz.laysAtoi s (by omega) v (by rw [hl]; exact ha) w
    obtain ⟨v0, v1⟩ := Lib.atoiAll_bounds ha
    obtain ⟨n1, n2⟩ := num_iff ha
    have CA' : Calls Tryz.prog 62 #[.string s] w fun e w' => e = .returned (.tuple #[.int .i64 v, .nilIface]) ∧ Below w.heap.size w w' := CA.mono fun e w' ⟨he, hw⟩ => ⟨he, by
      rcases hw with rfl | ⟨t, rfl⟩
      · exact Below.refl _ _
      · exact Lib.bytesWorld_below _ _ _⟩
    have N1 := Lib.hid n1
    have N2 := Lib.hid n2
    clear CA n1 n2 hce hie hcr hir
    go_enter Tryz.func29, Tryz.ntmps29
    go_wp2_with fail
    refine CA'.mono ?_
    rintro en w1 ⟨rfl, hb1⟩
    have HB1 := Lib.hid hb1
    have CI := itoaU v w1 v0 v1 (TAB.out w1 hb1)
    have hse := str_eq v s
    rw [hl] at hse
    have hlen2 : s.size = l.length := by rw [← hl]; rfl
    clear CA' hb1
    by_cases hv : 0 ≤ v
    · have hv2 : decide (v ≥ 0) = true := decide_eq_true hv
      by_cases h9 : l.length ≤ 9
      · have h92 : decide ((s.size : Int) ≤ 9) = true := decide_eq_true (by omega)
        go_wp2_with fail
        refine CI.mono ?_
        rintro en w2 ⟨rfl, hb2⟩
        have HB2 := Lib.hid hb2
        clear CI hb2
        go_wp2_with fail
        go_ret2
        have hq : (Lib.itoa v == s.toList) = numB l := by
          rw [ByteArray.toList_eq, hl, Bool.eq_iff_iff, beq_iff_eq, N1.out]
          exact ⟨fun e => ⟨hv, h9, e⟩, fun h => h.2.2⟩
        refine ⟨⟨v, ?_, N2.out⟩, HB1.out.trans (HB2.out.mono HB1.out.size)⟩
        show Ending.returned (.tuple #[.int .i64 v, .bool (Lib.itoa v == s.toList)]) = _
        rw [hq]
      · have h92 : decide ((s.size : Int) ≤ 9) = false := decide_eq_false (by omega)
        have hn : numB l = false := Bool.eq_false_iff.2 fun h => h9 (N1.out.1 h).2.1
        clear CI
        go_wp2_with fail
        go_ret2
        first | exact ⟨⟨v, rfl⟩, HB1.out⟩ | (rw [hn]; exact ⟨⟨v, rfl, fun h => by cases h⟩, HB1.out⟩)
    · have hv2 : decide (v ≥ 0) = false := decide_eq_false hv
      have hv3 : decide (0 ≤ v) = false := hv2
      have hn : numB l = false := Bool.eq_false_iff.2 fun h => hv (N1.out.1 h).1
      clear CI
      go_wp2_with fail
      go_ret2
      first | exact ⟨⟨v, rfl⟩, HB1.out⟩ | (rw [hn]; exact ⟨⟨v, rfl, fun h => by cases h⟩, HB1.out⟩)
  | «syntax» =>
    have CA := Any.strconv_Atoi_syntax Tryz.laysAtoi s (by omega) (by rw [hl]; exact ha) ce w hce hie
    have hn : numB l = false := num_no fun v h => by rw [ha] at h; cases h
    clear hce hie hcr hir
    go_enter Tryz.func29, Tryz.ntmps29
    go_wp2_with fail
    refine CA.mono ?_
    clear CA
    rintro en w1 ⟨N, rfl, _, _, hb1⟩
    have HB1 := Lib.hid hb1
    clear hb1
    go_wp2_with fail
    go_ret2
    first | exact ⟨⟨_, rfl⟩, HB1.out⟩ | (rw [hn]; exact ⟨⟨_, rfl, fun h => by cases h⟩, HB1.out⟩)
  | range =>
    have CA := Any.strconv_Atoi_range Tryz.laysAtoi s (by omega) (by rw [hl]; exact ha) cr w hcr hir
    have hn : numB l = false := num_no fun v h => by rw [ha] at h; cases h
    clear hce hie hcr hir
    generalize Lib.atoiSat s.data.toList = sat at CA
    go_enter Tryz.func29, Tryz.ntmps29
    go_wp2_with fail
    refine CA.mono ?_
    clear CA
    rintro en w1 ⟨N, rfl, _, _, hb1⟩
    have HB1 := Lib.hid hb1
    clear hb1
    go_wp2_with fail
    go_ret2
    first | exact ⟨⟨_, rfl⟩, HB1.out⟩ | (rw [hn]; exact ⟨⟨_, rfl, fun h => by cases h⟩, HB1.out⟩)
end Go.Proofs.YtkmjdfcfcfmkdaaGreatDoor.X
