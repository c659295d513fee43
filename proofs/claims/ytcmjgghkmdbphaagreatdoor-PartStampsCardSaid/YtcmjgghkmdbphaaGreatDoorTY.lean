/- The law PartStamps returns true for every input; its one condition is the row's own: Go's UTF-8 tables are laid. -/
import Derived.Test.YtcmjgghkmdbphaaGreatDoorRows
import Derived.Test.YtcmjgghkmdbphaaGreatDoorT23
import Derived.Lib.LaidIn
import Derived.Lib.LaidU8T
import Derived.WalkKit
import Derived.ProofKit
import Derived.OpenShut
import Derived.LaidMore
import Derived.Carry
import Derived.Test.YtcmjgghkmdbphaaGreatDoorT19
import Derived.Lay
import Derived.SevenTiedAt
import Derived.Stop.Joined
namespace Go.Proofs.YtcmjgghkmdbphaaGreatDoor.partStamps
open Go.Shelf Go.ChangeShapes Go.WideShapes Go.ChangeAt Go.RowKit
open Go.ChangeMaps (open_string shut_string)

theorem laid : laidOutB Tryz.prog = true := by kernel_rfl
theorem own : ownKnob Tryz.prog.godebug = none := by kernel_rfl
theorem eq_first : (Rows.laid_unicode_utf8_first : DataW Unit) = Lib.firstData := by kernel_rfl
theorem eq_accept : (Rows.laid_unicode_utf8_acceptRanges : DataW Unit) = Lib.acceptData := by kernel_rfl
theorem tabs {W : World} (h : laidMetH Tryz.prog Rows.partStampsRow.laid W) : Tabs W := by
  rw [MakeChecks.laidMetH_plain _ _ _ (by kernel_rfl)] at h
  have hF := Lib.laidMet.reads h (.tail _ (.head _))
  have hA := Lib.laidMet.reads h (.head _)
  rw [eq_first] at hF
  rw [eq_accept] at hA
  exact utf8Tabs_of_readsT (U8Types.of196 Tryz.laysValid) ⟨by kernel_rfl, by kernel_rfl, by kernel_rfl, by kernel_rfl, by kernel_rfl, by kernel_rfl, by kernel_rfl⟩ hF hA

set_option maxRecDepth 100000 in
set_option maxHeartbeats 1600000 in
theorem lifted (os : Os) (started : os.Started) (H : Type) (enc : TypeId × Value → H) :
    ReturnsInHanded {} Tryz.checked os 10 .any (fun w args => (Rows.partStampsSpec.pre enc Tryz.prog Tryz.f10 Rows.partStampsRow.domain false w args ∧ laidMetH Tryz.prog Rows.partStampsRow.laid w) ∧ sizedMet enc Tryz.prog Tryz.f10 (OpenSpec.ofChange Rows.partStampsSpec) false w args)
      (Rows.partStampsSpec.post enc Tryz.prog Tryz.f10 false true false false) := by
  refine returnsInHanded_of_change_and (C := Tryz.checked) (X := fun w _ => laidMetH Tryz.prog Rows.partStampsRow.laid w) (fun _ _ _ hh h => h.of_heap hh) own started (by kernel_rfl) Tryz.func10
    (ChangeSpec.witness_shaped (enc := enc) (C := Tryz.checked) (os := os) (X := fun w _ => laidMetH Tryz.prog Rows.partStampsRow.laid w) false (World.laidAll Tryz.prog os Rows.partStampsRow.laid) #[.slice none 0 0] 8 (World.laidAll_os _ _ _)
      (World.shaped_of_ZipB (by kernel_rfl) (by kernel_rfl)) (by kernel_rfl) (by kernel_rfl) (by kernel_rfl)
      (by rw [MakeChecks.laidMetH_plain _ _ _ (by kernel_rfl)]; exact laidMet_laidAll _ (by kernel_rfl) (by kernel_rfl))) ?_
  intro W base args ds gs before hval0 hW hc _ hL _
  have hval : ∀ (j : Nat) t v, (Tryz.f10).params[j]? = some t → args[j]? = some v → Value.okWide Tryz.prog W .any base t v := hval0
  have hW' := hW
  obtain ⟨p, q, hA0, hV, rfl, _, _⟩ := hW
  have hA : DataW.TrodAll enc Tryz.prog W 0 (fun _ => true) true (Tryz.f10).params.toList args.toList ds p := hA0
  rw [Tryz.params10] at hA hval
  obtain ⟨v0, vs0, d0, ds0, p0, q0, hargs, rfl, rfl, h0, r0⟩ := trodAll_cons hA
  obtain ⟨rfl, rfl, rfl⟩ := trodAll_nil r0
  obtain rfl : args = #[v0] := by cases args; simp_all
  obtain ⟨rfl, rfl⟩ := trodVars_none hV
  obtain ⟨B0, len0, cap0, rfl⟩ := okWide_slice Tryz.underlying120 (hval 0 120 v0 rfl rfl)
  obtain ⟨fu0, g0⟩ := h0
  obtain ⟨a0, b0⟩ := opens_psteps.2 _ _ _ _ _ _ _ _ _ g0
  obtain ⟨A0, c0, e0, l0, m0, o0⟩ := b0
  obtain ⟨rfl, rfl, rfl⟩ : B0 = A0 ∧ len0 = a0.length ∧ cap0 = c0 := by simpa [Value.cells] using e0
  have htab := tabs hL
  have hlt : ∀ x ∈ p0, x.block < W.heap.size := fun x hx => by
    have := hW'.lt x (by simpa using hx)
    simpa using this
  clear hA0 hval0
  refine (partStamps_law a0 B0 cap0 W (o0.mono fun _ _ h => h) ⟨l0, m0⟩ htab (lt_of_cell (htab.2 0 (by decide)).1)).mono fun e W' ⟨he, hb⟩ => ?_
  subst he
  exact ⟨_, rfl, _, _, _, [], (p0 ++ []), [], hW', trodAll_cons_mk (shut_bool Tryz.underlying4 _) trodAll_mk0, (trodAll_cons_mk (Below.trod laid (by kernel_rfl) (of_decide_eq_true (by kernel_rfl)) ⟨fu0, g0⟩ hb (fun x hx => hlt x (by simp [hx]))) trodAll_mk0), rfl, hb.frame _, fun h => by cases h⟩

theorem z1 : Tryz.pinned.checked.prog.funcNamed Rows.partStampsRow.func = some 10 := by kernel_rfl
theorem y1 : (Rows.partStampsRow.inPlace == Tryz.pinned.checked.prog.inPlace 10) = true := by kernel_rfl
theorem y2 : (Rows.partStampsRow.unfollowed == Tryz.pinned.checked.prog.unfollowed 10) = true := by kernel_rfl
theorem y3 : (Rows.partStampsRow.recurses == Tryz.pinned.checked.prog.recurses 10) = true := by kernel_rfl
theorem y4 : (Rows.partStampsRow.named == Tryz.pinned.checked.prog.varsNamed 10) = true := by kernel_rfl
set_option maxHeartbeats 6400000 in
theorem z2 : joinedFacts Tryz.pinned.checked.prog 10 Tryz.f10 Rows.partStampsSpec Rows.partStampsRow = true := by
  unfold joinedFacts
  simp only [Bool.and_eq_true]
  repeat' (refine And.intro ?_ ?_)
  all_goals first
    | (with_reducible exact y1)
    | (with_reducible exact y2)
    | (with_reducible exact y3)
    | (with_reducible exact y4)
    | (as_aux_lemma => kernel_rfl)
theorem z3 : (Tryz.f10).isInstance Tryz.pinned.checked.prog Rows.partStampsRow.origin Rows.partStampsRow.targs := of_decide_eq_true (by kernel_rfl)
theorem z4 : (Tryz.f10).isWrapper Tryz.pinned.checked.prog Rows.partStampsRow.wrapper Rows.partStampsRow.mainSum := by unfold Func.isWrapper; first | (rw [if_pos (by decide +kernel)]; kernel_rfl) | (rw [if_neg (by decide +kernel)]; exact ⟨rfl, rfl⟩)
theorem over : Rows.PartStampsSaid :=
  OpenClaim.holds_of_wide 10 Tryz.f10 rfl rfl rfl rfl rfl rfl rfl ⟨rfl, rfl, rfl, rfl, rfl⟩ rfl rfl rfl rfl rfl z1 Tryz.func10 z2 z3 z4
    (fun os started H enc _ => lifted os started H enc)
end Go.Proofs.YtcmjgghkmdbphaaGreatDoor.partStamps
