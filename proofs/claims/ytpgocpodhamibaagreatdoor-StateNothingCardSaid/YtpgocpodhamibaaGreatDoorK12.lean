/- The law StateNothing returns true for every text; its one condition is the row's own: Go's UTF-8 tables are laid. -/
import Derived.Test.YtpgocpodhamibaaGreatDoorRows
import Derived.Test.YtpgocpodhamibaaGreatDoorK11
import Derived.Lib.LaidIn
import Derived.Lib.LaidU8T
import Derived.WalkKit
import Derived.ProofKit
import Derived.OpenShut
import Derived.LaidMore
import Derived.Lay
import Derived.SevenTiedAt
import Derived.Stop.Joined
namespace Go.Proofs.YtpgocpodhamibaaGreatDoor.stateNothing
open Go.Shelf Go.ChangeShapes Go.WideShapes Go.ChangeAt Go.RowKit
open Go.ChangeMaps (open_string shut_string)

theorem own : ownKnob Tryz.prog.godebug = none := by kernel_rfl
theorem eq_first : (Rows.laid_unicode_utf8_first : DataW Unit) = Lib.firstData := by kernel_rfl
theorem eq_accept : (Rows.laid_unicode_utf8_acceptRanges : DataW Unit) = Lib.acceptData := by kernel_rfl
theorem tabs {W : World} (h : laidMetH Tryz.prog Rows.stateNothingRow.laid W) : Tabs W := by
  rw [MakeChecks.laidMetH_plain _ _ _ (by kernel_rfl)] at h
  have hF := Lib.laidMet.reads h (.tail _ (.head _))
  have hA := Lib.laidMet.reads h (.head _)
  rw [eq_first] at hF
  rw [eq_accept] at hA
  exact utf8Tabs_of_readsT (U8Types.of196 Tryz.laysValid) ⟨by kernel_rfl, by kernel_rfl, by kernel_rfl, by kernel_rfl, by kernel_rfl, by kernel_rfl, by kernel_rfl⟩ hF hA

set_option maxRecDepth 100000 in
theorem lifted (os : Os) (started : os.Started) (H : Type) (enc : TypeId × Value → H) :
    ReturnsInHanded {} Tryz.checked os 7 .any (fun w args => (Rows.stateNothingSpec.pre enc Tryz.prog Tryz.f7 Rows.stateNothingRow.domain false w args ∧ laidMetH Tryz.prog Rows.stateNothingRow.laid w) ∧ sizedMet enc Tryz.prog Tryz.f7 (OpenSpec.ofChange Rows.stateNothingSpec) false w args)
      (Rows.stateNothingSpec.post enc Tryz.prog Tryz.f7 false true false false) := by
  refine returnsInHanded_of_change_and (C := Tryz.checked) (X := fun w _ => laidMetH Tryz.prog Rows.stateNothingRow.laid w) (fun _ _ _ hh h => h.of_heap hh) own started (by kernel_rfl) Tryz.func7
    (ChangeSpec.witness_shaped (enc := enc) (C := Tryz.checked) (os := os) (X := fun w _ => laidMetH Tryz.prog Rows.stateNothingRow.laid w) false (World.laidAll Tryz.prog os Rows.stateNothingRow.laid) #[.string ⟨#[]⟩] 8 (World.laidAll_os _ _ _)
      (World.shaped_of_ZipB (by kernel_rfl) (by kernel_rfl)) (by kernel_rfl) (by kernel_rfl) (by kernel_rfl)
      (by rw [MakeChecks.laidMetH_plain _ _ _ (by kernel_rfl)]; exact laidMet_laidAll _ (by kernel_rfl) (by kernel_rfl))) ?_
  intro W base args ds gs before hval0 hW hc _ hL _
  have hval : ∀ (j : Nat) t v, Tryz.f7.params[j]? = some t → args[j]? = some v → Value.okWide Tryz.prog W .any base t v := hval0
  have hW' := hW
  obtain ⟨p, q, hA0, hV, rfl, _, _⟩ := hW
  have hA : DataW.TrodAll enc Tryz.prog W 0 (fun _ => true) true Tryz.f7.params.toList args.toList ds p := hA0
  rw [Tryz.params7] at hA hval
  obtain ⟨v0, d0, rfl, rfl, h0⟩ := trodAll_one hA
  obtain ⟨rfl, rfl⟩ := trodVars_none hV
  obtain ⟨s, rfl, rfl, rfl, ws⟩ := open_string Tryz.underlying9 (hval 0 9 v0 rfl rfl) h0
  have htab := tabs hL
  simp only [List.append_nil] at hW'
  refine (nothing_any s W htab (lt_of_cell (htab.2 0 (by decide)).1)).mono fun e W' ⟨he, hb⟩ => ?_
  subst he
  exact ⟨_, rfl, _, _, _, [], [], [], hW', trodAll_mk1 (shut_bool Tryz.underlying4 _), trodAll_mk1 (shut_string Tryz.underlying9 ws), rfl, hb.frame _, fun h => by cases h⟩

theorem z1 : Tryz.pinned.checked.prog.funcNamed Rows.stateNothingRow.func = some 7 := by kernel_rfl
theorem y1 : (Rows.stateNothingRow.inPlace == Tryz.pinned.checked.prog.inPlace 7) = true := by kernel_rfl
theorem y2 : (Rows.stateNothingRow.unfollowed == Tryz.pinned.checked.prog.unfollowed 7) = true := by kernel_rfl
theorem y3 : (Rows.stateNothingRow.recurses == Tryz.pinned.checked.prog.recurses 7) = true := by kernel_rfl
theorem y4 : (Rows.stateNothingRow.named == Tryz.pinned.checked.prog.varsNamed 7) = true := by kernel_rfl
set_option maxHeartbeats 6400000 in
theorem z2 : joinedFacts Tryz.pinned.checked.prog 7 Tryz.f7 Rows.stateNothingSpec Rows.stateNothingRow = true := by
  unfold joinedFacts
  simp only [Bool.and_eq_true]
  repeat' (refine And.intro ?_ ?_)
  all_goals first
    | (with_reducible exact y1)
    | (with_reducible exact y2)
    | (with_reducible exact y3)
    | (with_reducible exact y4)
    | (as_aux_lemma => kernel_rfl)
theorem z3 : Tryz.f7.isInstance Tryz.pinned.checked.prog Rows.stateNothingRow.origin Rows.stateNothingRow.targs := of_decide_eq_true (by kernel_rfl)
theorem z4 : Tryz.f7.isWrapper Tryz.pinned.checked.prog Rows.stateNothingRow.wrapper Rows.stateNothingRow.mainSum := by unfold Func.isWrapper; first | (rw [if_pos (by decide +kernel)]; kernel_rfl) | (rw [if_neg (by decide +kernel)]; exact ⟨rfl, rfl⟩)
theorem over : Rows.StateNothingSaid :=
  OpenClaim.holds_of_wide 7 Tryz.f7 rfl rfl rfl rfl rfl rfl rfl ⟨rfl, rfl, rfl, rfl, rfl⟩ rfl rfl rfl rfl rfl z1 Tryz.func7 z2 z3 z4
    (fun os started H enc _ => lifted os started H enc)
end Go.Proofs.YtpgocpodhamibaaGreatDoor.stateNothing
namespace Go.Proofs.YtpgocpodhamibaaGreatDoor
theorem stateNothing_proved : Rows.StateNothingSaid := stateNothing.over
#print axioms stateNothing_proved
end Go.Proofs.YtpgocpodhamibaaGreatDoor
