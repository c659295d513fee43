/- The law StateLearns returns true for every input; its one condition is the row's own: Go's UTF-8 tables are laid. -/
import Derived.Test.YtpgocpodhamibaaGreatDoorRows
import Derived.Test.YtpgocpodhamibaaGreatDoorN08
import Derived.Lib.LaidIn
import Derived.Lib.LaidU8T
import Derived.WalkKit
import Derived.ProofKit
import Derived.OpenShut
import Derived.LaidMore
import Derived.Carry
import Derived.Lay
import Derived.SevenTiedAt
import Derived.Stop.Joined
namespace Go.Proofs.YtpgocpodhamibaaGreatDoor.stateLearns
open Go.Shelf Go.ChangeShapes Go.WideShapes Go.ChangeAt Go.RowKit
open Go.ChangeMaps (open_string shut_string)

theorem laid : laidOutB Tryz.prog = true := by kernel_rfl
theorem own : ownKnob Tryz.prog.godebug = none := by kernel_rfl
theorem eq_first : (Rows.laid_unicode_utf8_first : DataW Unit) = Lib.firstData := by kernel_rfl
theorem eq_accept : (Rows.laid_unicode_utf8_acceptRanges : DataW Unit) = Lib.acceptData := by kernel_rfl
theorem tabs {W : World} (h : laidMetH Tryz.prog Rows.stateLearnsRow.laid W) : Tabs W := by
  rw [MakeChecks.laidMetH_plain _ _ _ (by kernel_rfl)] at h
  have hF := Lib.laidMet.reads h (.tail _ (.head _))
  have hA := Lib.laidMet.reads h (.head _)
  rw [eq_first] at hF
  rw [eq_accept] at hA
  exact utf8Tabs_of_readsT (U8Types.of196 Tryz.laysValid) ⟨by kernel_rfl, by kernel_rfl, by kernel_rfl, by kernel_rfl, by kernel_rfl, by kernel_rfl, by kernel_rfl⟩ hF hA

set_option maxRecDepth 100000 in
set_option maxHeartbeats 1600000 in
theorem lifted (os : Os) (started : os.Started) (H : Type) (enc : TypeId × Value → H) :
    ReturnsInHanded {} Tryz.checked os 8 .any (fun w args => (Rows.stateLearnsSpec.pre enc Tryz.prog Tryz.f8 Rows.stateLearnsRow.domain false w args ∧ laidMetH Tryz.prog Rows.stateLearnsRow.laid w) ∧ sizedMet enc Tryz.prog Tryz.f8 (OpenSpec.ofChange Rows.stateLearnsSpec) false w args)
      (Rows.stateLearnsSpec.post enc Tryz.prog Tryz.f8 false true false false) := by
  refine returnsInHanded_of_change_and (C := Tryz.checked) (X := fun w _ => laidMetH Tryz.prog Rows.stateLearnsRow.laid w) (fun _ _ _ hh h => h.of_heap hh) own started (by kernel_rfl) Tryz.func8
    (ChangeSpec.witness_shaped (enc := enc) (C := Tryz.checked) (os := os) (X := fun w _ => laidMetH Tryz.prog Rows.stateLearnsRow.laid w) false (World.laidAll Tryz.prog os Rows.stateLearnsRow.laid) #[.int .i64 0, .int .i64 0, .slice none 0 0, .slice none 0 0, .int .i64 0] 8 (World.laidAll_os _ _ _)
      (World.shaped_of_ZipB (by kernel_rfl) (by kernel_rfl)) (by kernel_rfl) (by kernel_rfl) (by kernel_rfl)
      (by rw [MakeChecks.laidMetH_plain _ _ _ (by kernel_rfl)]; exact laidMet_laidAll _ (by kernel_rfl) (by kernel_rfl))) ?_
  intro W base args ds gs before hval0 hW hc _ hL _
  have hval : ∀ (j : Nat) t v, Tryz.f8.params[j]? = some t → args[j]? = some v → Value.okWide Tryz.prog W .any base t v := hval0
  have hW' := hW
  obtain ⟨p, q, hA0, hV, rfl, _, _⟩ := hW
  have hA : DataW.TrodAll enc Tryz.prog W 0 (fun _ => true) true Tryz.f8.params.toList args.toList ds p := hA0
  rw [Tryz.params8] at hA hval
  obtain ⟨v0, vs0, d0, ds0, p0, q0, hargs, rfl, rfl, h0, r0⟩ := trodAll_cons hA
  obtain ⟨v1, vs1, d1, ds1, p1, q1, rfl, rfl, rfl, h1, r1⟩ := trodAll_cons r0
  obtain ⟨v2, vs2, d2, ds2, p2, q2, rfl, rfl, rfl, h2, r2⟩ := trodAll_cons r1
  obtain ⟨v3, vs3, d3, ds3, p3, q3, rfl, rfl, rfl, h3, r3⟩ := trodAll_cons r2
  obtain ⟨v4, vs4, d4, ds4, p4, q4, rfl, rfl, rfl, h4, r4⟩ := trodAll_cons r3
  obtain ⟨rfl, rfl, rfl⟩ := trodAll_nil r4
  obtain rfl : args = #[v0, v1, v2, v3, v4] := by cases args; simp_all
  obtain ⟨rfl, rfl⟩ := trodVars_none hV
  obtain ⟨a0, rfl, rfl, rfl, w0⟩ := open_int Tryz.underlying3 (hval 0 3 v0 rfl rfl) h0
  obtain ⟨a1, rfl, rfl, rfl, w1⟩ := open_int Tryz.underlying3 (hval 1 3 v1 rfl rfl) h1
  obtain ⟨B2, len2, cap2, rfl⟩ := okWide_slice Tryz.underlying48 (hval 2 48 v2 rfl rfl)
  obtain ⟨fu2, g2⟩ := h2
  obtain ⟨a2, b2⟩ := opens_recs.2 _ _ _ _ _ _ _ _ _ g2
  obtain ⟨A2, c2, e2, l2, m2, o2⟩ := b2
  obtain ⟨rfl, rfl, rfl⟩ : B2 = A2 ∧ len2 = a2.length ∧ cap2 = c2 := by simpa [Value.cells] using e2
  obtain ⟨B3, len3, cap3, rfl⟩ := okWide_slice Tryz.underlying51 (hval 3 51 v3 rfl rfl)
  obtain ⟨fu3, g3⟩ := h3
  obtain ⟨a3, b3⟩ := opens_ranges.2 _ _ _ _ _ _ _ _ _ g3
  obtain ⟨A3, c3, e3, l3, m3, o3⟩ := b3
  obtain ⟨rfl, rfl, rfl⟩ : B3 = A3 ∧ len3 = a3.length ∧ cap3 = c3 := by simpa [Value.cells] using e3
  obtain ⟨a4, rfl, rfl, rfl, w4⟩ := open_int Tryz.underlying3 (hval 4 3 v4 rfl rfl) h4
  have htab := tabs hL
  have hlt : ∀ x ∈ p2 ++ p3, x.block < W.heap.size := fun x hx => by
    have := hW'.lt x (by simpa using hx)
    simpa using this
  clear hA0 hval0
  refine (learns_law a0 a1 a2 a3 a4 B2 B3 cap2 cap3 W (i64_wfL w0) (i64_wfL w1) o2 ⟨l2, m2⟩ o3 ⟨l3, m3⟩ htab (lt_of_cell (htab.2 0 (by decide)).1)).mono fun e W' ⟨he, hb⟩ => ?_
  subst he
  exact ⟨_, rfl, _, _, _, [], ([] ++ ([] ++ (p2 ++ (p3 ++ ([] ++ []))))), [], hW', trodAll_cons_mk (shut_bool Tryz.underlying4 _) trodAll_mk0, (trodAll_cons_mk (shut_int Tryz.underlying3 w0) (trodAll_cons_mk (shut_int Tryz.underlying3 w1) (trodAll_cons_mk (Below.trod laid (by kernel_rfl) (of_decide_eq_true (by kernel_rfl)) ⟨fu2, g2⟩ hb (fun x hx => hlt x (by simp [hx]))) (trodAll_cons_mk (Below.trod laid (by kernel_rfl) (of_decide_eq_true (by kernel_rfl)) ⟨fu3, g3⟩ hb (fun x hx => hlt x (by simp [hx]))) (trodAll_cons_mk (shut_int Tryz.underlying3 w4) trodAll_mk0))))), rfl, hb.frame _, fun h => by cases h⟩

theorem z1 : Tryz.pinned.checked.prog.funcNamed Rows.stateLearnsRow.func = some 8 := by kernel_rfl
theorem y1 : (Rows.stateLearnsRow.inPlace == Tryz.pinned.checked.prog.inPlace 8) = true := by kernel_rfl
theorem y2 : (Rows.stateLearnsRow.unfollowed == Tryz.pinned.checked.prog.unfollowed 8) = true := by kernel_rfl
theorem y3 : (Rows.stateLearnsRow.recurses == Tryz.pinned.checked.prog.recurses 8) = true := by kernel_rfl
theorem y4 : (Rows.stateLearnsRow.named == Tryz.pinned.checked.prog.varsNamed 8) = true := by kernel_rfl
set_option maxHeartbeats 6400000 in
theorem z2 : joinedFacts Tryz.pinned.checked.prog 8 Tryz.f8 Rows.stateLearnsSpec Rows.stateLearnsRow = true := by
  unfold joinedFacts
  simp only [Bool.and_eq_true]
  repeat' (refine And.intro ?_ ?_)
  all_goals first
    | (with_reducible exact y1)
    | (with_reducible exact y2)
    | (with_reducible exact y3)
    | (with_reducible exact y4)
    | (as_aux_lemma => kernel_rfl)
theorem z3 : Tryz.f8.isInstance Tryz.pinned.checked.prog Rows.stateLearnsRow.origin Rows.stateLearnsRow.targs := of_decide_eq_true (by kernel_rfl)
theorem z4 : Tryz.f8.isWrapper Tryz.pinned.checked.prog Rows.stateLearnsRow.wrapper Rows.stateLearnsRow.mainSum := by unfold Func.isWrapper; first | (rw [if_pos (by decide +kernel)]; kernel_rfl) | (rw [if_neg (by decide +kernel)]; exact ⟨rfl, rfl⟩)
theorem over : Rows.StateLearnsSaid :=
  OpenClaim.holds_of_wide 8 Tryz.f8 rfl rfl rfl rfl rfl rfl rfl ⟨rfl, rfl, rfl, rfl, rfl⟩ rfl rfl rfl rfl rfl z1 Tryz.func8 z2 z3 z4
    (fun os started H enc _ => lifted os started H enc)
end Go.Proofs.YtpgocpodhamibaaGreatDoor.stateLearns
