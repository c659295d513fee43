/- StateSame: the law's walk. Arguments opened: what is read as a datum is one of ours. -/
import Derived.Test.YtcmjgghkmdbphaaGreatDoorS24
import Derived.Test.YtcmjgghkmdbphaaGreatDoorS27
import Derived.Test.YtcmjgghkmdbphaaGreatDoorS28
import Derived.Test.YtcmjgghkmdbphaaGreatDoorS23
import Derived.Test.YtcmjgghkmdbphaaGreatDoorS01
import Derived.Test.YtcmjgghkmdbphaaGreatDoorProg
import Derived.Deep.Slices
import Derived.ChangeSame
import Derived.ChangeArms
set_option maxRecDepth 20000
set_option maxHeartbeats 25600000
namespace Go.Proofs.YtcmjgghkmdbphaaGreatDoor
open Go.RowKit
theorem StAt.keep {w w' : World} {P F : Nat → Prop} {g : Nat} {s : St} (h : StAt w P g s) (hO : Only F w w') (hg : ¬ F g) (hP : ∀ k, P k → ¬ F k) : StAt w' P g s := by
 obtain ⟨v', a1, a2⟩ := h
 exact ⟨v', a1.only hO hg, a2.same (Same.of_only hO hP)⟩
theorem heldD_len : ∀ l : List (Tx × Held), (∀ p ∈ l, 1 ≤ sumD p.2.batch.puts) → l.length ≤ heldD l
 | [], _ => by simp
 | p :: l, h => by
   have h1 := heldD_len l fun q hq => h q (by simp [hq])
   have h2 := h p (by simp)
   have e : heldD (p :: l) = sumD p.2.batch.puts + heldD l := by simp [heldD]
   rw [e, List.length_cons]; omega
theorem held_few {s : St} {N : Nat} (h : Inv s N) : s.held.length ≤ N := by
 have h1 := heldD_len s.held fun p hp => by
  have hg := checkB_good (h.held p hp).check
  obtain ⟨q, l, e⟩ := List.exists_cons_of_ne_nil hg.some
  have h3 := (hg.puts q (by rw [e]; simp)).2.2.1
  have h4 := List.length_pos_iff.2 h3
  rw [e]
  have e2 : sumD (q :: l) = q.data.length + sumD l := by simp [sumD]
  rw [e2]; omega
 have h2 := h.log
 omega
theorem same_law (l more : List Rec) (A A' : Option Addr) (c c' : Nat) (w : World)
 (hr : RecR.Row w (fun k => k < w.heap.size) A l) (hc : l.length ≤ c ∧ c ≤ 9223372036854775807) (hr' : RecR.Row w (fun k => k < w.heap.size) A' more) (hc' : more.length ≤ c' ∧ c' ≤ 9223372036854775807) (hT : Tabs w) (h2 : 2 ≤ w.heap.size) :
 Calls Tryz.prog 4 #[.slice A l.length c, .slice A' more.length c'] w fun e w' => e = .returned (.bool true) ∧ Below w.heap.size w w' := by
 have CA := jh (fun W (hW : Below w.heap.size w W) => awake_any W (hT.below hW) (by have := hW.size; omega))
 have HR := jh (ja (show RcB w l A w from ⟨hr, hT, jb _ _⟩) (show RcB w more A' w from ⟨hr', hT, jb _ _⟩))
 have C1 := small_any l A c _ w hr hc
 have HC2 := jh hc'
 have hl63 : (l.length : Int) ≤ 9223372036854775807 := by omega
 have hm63 : (more.length : Int) ≤ 9223372036854775807 := by omega
 clear hr hr' hT hc'
 go_enter Tryz.func4, Tryz.ntmps4
 go_wp2_with fail
 refine C1.mono ?_
 clear C1
 rintro e w0 ⟨⟨sb, rfl, hsb⟩, hb0⟩
 have H0 := jh (ja (HR.out.1.ext hb0) (HR.out.2.ext hb0))
 clear hb0
 cases sb
 ·clear hsb
  go_wp2_with fail
  refine (CA.out w0 H0.out.1.below).mono ?_
  rintro e w1 ⟨rfl, hb1⟩
  go_wp2_with fail
  go_ret
  exact ⟨rfl, H0.out.1.below.tr hb1⟩
 have HSM := jh (hsb rfl)
 clear hsb
 have C1 := small_any more A' c' _ w0 H0.out.2.r HC2.out
 go_wp2_with fail
 refine C1.mono ?_
 clear C1
 rintro e w0' ⟨⟨sb, rfl, hsb⟩, hb0⟩
 have H0 := jh (ja (H0.out.1.ext hb0) (H0.out.2.ext hb0))
 clear hb0
 cases sb
 ·clear hsb
  go_wp2_with fail
  refine (CA.out w0' H0.out.1.below).mono ?_
  rintro e w1 ⟨rfl, hb1⟩
  go_wp2_with fail
  go_ret
  exact ⟨rfl, H0.out.1.below.tr hb1⟩
 have HSM2 := jh (hsb rfl)
 clear hsb HR hc
 have hl80 : (l.length : Int) ≤ 80 := by have := HSM.out.1; omega
 have hm80 : (more.length : Int) ≤ 80 := by have := HSM2.out.1; omega
 have hz0 := H0.out.1.below.size
 obtain ⟨s0, hnw⟩ : ∃ s0, newS 1 2 = some s0 := ⟨_, by unfold newS; rw [if_neg (by decide)]⟩
 have HNW := jh hnw
 have C2 := newState_any 1 2 w0' (by unfold i64; omega) (by unfold i64; omega)
 unfold GotState at C2
 rw [hnw] at C2
 dsimp only at C2
 clear hnw
 go_wp2_with fail
 refine C2.mono ?_
 clear C2
 rintro e w1 ⟨⟨g, rfl, hg, hst, _⟩, hb1⟩
 have hz1 := hb1.size
 have hgl := hst.lt
 have HA1 := jh (ja hst (ja (H0.out.1.ext hb1) (H0.out.2.ext hb1)))
 clear hst hb1
 have C2 := newState_any 1 2 w1 (by unfold i64; omega) (by unfold i64; omega)
 unfold GotState at C2
 rw [HNW.out] at C2
 dsimp only at C2
 unfold ptrV at C2 ⊢
 go_wp2_with fail
 refine C2.mono ?_
 clear C2
 rintro e w2 ⟨⟨g', rfl, hg', hst', _⟩, hb2⟩
 have hz2 := hb2.size
 have hgl' := hst'.lt
 have hgg : g ≠ g' := by omega
 have hst1 : StAt w2 (fun k => w.heap.size ≤ k ∧ k ≠ g ∧ k ≠ g') g s0 := by
  obtain ⟨v', a1, a2⟩ := HA1.out.1
  exact ⟨v', a1.ext hb2, (a2.low.same (js hb2)).mono fun k hk => ⟨by have := hk.1.1; omega, hk.1.2, by have := hk.2; omega⟩⟩
 have hst2 : StAt w2 (fun k => w.heap.size ≤ k ∧ k ≠ g ∧ k ≠ g') g' s0 := hst'.mono fun k hk => ⟨by have := hk.1; omega, by have := hk.1; omega, hk.2⟩
 have H2 := jh (ja hst1 (ja hst2 (ja (HA1.out.2.1.ext hb2) (HA1.out.2.2.ext hb2))))
 clear hst' hst1 hst2 hb2
 go_wp2_with fail
 go_loopw [9] (fun iv wr => ∃ (i : Nat) (s : St), i ≤ l.length ∧ iv = .int .i64 i ∧ StAt wr (fun k => w.heap.size ≤ k ∧ k ≠ g ∧ k ≠ g') g s ∧ StAt wr (fun k => w.heap.size ≤ k ∧ k ≠ g ∧ k ≠ g') g' s ∧ Inv s (costEL (l.take i)) ∧ OutOk s i ∧ Only (fun k => k = g ∨ k = g') w2 wr) (fun iv _ => l.length - (intOf iv).toNat)
 case atStart => exact ⟨0, s0, Nat.zero_le _, rfl, H2.out.1, H2.out.2.1, inv_new HNW.out, newS_out HNW.out, Only.refl _ _⟩
 case round =>
  obtain ⟨i, s, hin, rfl, hst, hst', hI, hU, hO⟩ := hrel
  have hzr := hO.size
  have hO1 : Below w.heap.size w wr := H2.out.2.2.1.below.trans (hO.low (fun k e => by rcases e with e | e <;> omega) (by omega))
  have hrl : RecR.Row wr (fun k => k < w.heap.size) A l := H2.out.2.2.1.r.same (Same.of_only hO fun k hk e => by rcases e with e | e <;> omega) hO.size
  have hrm : RecR.Row wr (fun k => k < w.heap.size) A' more := H2.out.2.2.2.r.same (Same.of_only hO fun k hk e => by rcases e with e | e <;> omega) hO.size
  have hTr : Tabs wr := H2.out.2.2.1.tabs.only hO (by intro e; rcases e with e | e <;> omega) (by intro e; rcases e with e | e <;> omega)
  have hct := costEL_tk l i
  have hcl : costEL l ≤ 18200 := by have h1 := HSM.out.2; have h2 := costEL_size l; omega
  have HS := jh (ja hst (ja hst' (ja hI (ja hU (ja hO (ja hO1 (ja hrl (ja hrm hTr))))))))
  have HF := jh (hI.fit (by omega))
  have HFF := jh (fresh_few hI (by omega))
  have HRG := jh (show s.ring.length ≤ 64 from (sound_iff.1 hI.ring).2)
  clear hst hst' hI hU hO hO1 hrl hrm hTr
  by_cases hlt : i < l.length
  ·have hlt' : (i : Int) < l.length := by omega
   have hli := jg hlt
   have hmem := List.getElem_mem hlt
   have hcn := costEL_take hlt
   have hcn1 := costEL_tk l (i + 1)
   have hsz : sizeR l[i] ≤ 20000 := by have h1 := HSM.out.2; have h2 := (sizeRs_bd l).2 _ hmem; omega
   have hfair := sizeR_fair hsz
   have hput := sizeR_put hsz
   obtain ⟨bb, o, nA, nc, pA, pc, sA, sc, rfl, hbw, hrec, hcs⟩ := recs_at HS.out.2.2.2.2.2.2.1 hli
   have hbb : bb < w.heap.size := by
    obtain ⟨b', o', _, hA, hb', _⟩ := HS.out.2.2.2.2.2.2.1.at_ hli
    injection hA with hA
    injection hA with hA _ _
    rw [hA]; exact hb'
   generalize l[i] = r at *
   obtain ⟨F, hF⟩ : ∃ F : Nat → Prop, F = fun k => k = g ∨ k = g' := ⟨_, rfl⟩
   have HFD := jh hF
   have HC := jh (ja hcn (ja hrec hfair))
   have HCX := jh (fun (W : World) (hW : ∃ d : Wd (Only F wr), W = d.w) => (show ∀ j u, (r.cells nA nc pA pc sA sc)[j]? = some u → W.cell? ⟨bb, o + i * 18 + j, none⟩ = some u from fun j u hu => by
    obtain ⟨d, rfl⟩ := hW
    exact (World.cell?_of_block (w := wr) (a := ⟨bb, o + i * 18 + j, none⟩) (d.ok.block bb hbw (by rw [HFD.out]; intro e; rcases e with e | e <;> omega))).trans (hcs j u hu)))
   have CAP := applyAll_any g s r nA pA sA nc pc sc _ (fun k => k < w.heap.size) wr.drew (HS.out.1.ext (jb _ _).drew) (fun h => h.2.1 rfl) HF.out (hrec.ext (js (jb _ wr).drew) (Nat.le_refl _)) (fun h => by omega) hfair (HS.out.2.2.2.2.2.2.2.2.below (jb _ wr).drew) (by omega) hput (by have := HRG.out; omega) HFF.out
   unfold StOut ptrV at CAP
   have CAP2 := jh (fun (W : World) (hst : StAt W (fun k => w.heap.size ≤ k ∧ k ≠ g ∧ k ≠ g') g' s) (hre : RecAt W (fun k => k < w.heap.size) r nA nc pA pc sA sc) (hTw : Tabs W) => (applyAll_any g' s r nA pA sA nc pc sc _ (fun k => k < w.heap.size) W hst (fun h => h.2.2 rfl) HF.out hre (fun h => by omega) hfair hTw (by omega) hput (by have := HRG.out; omega) HFF.out))
   have hI2 := apply_invE (r := r) HS.out.2.2.1 (by omega)
   have hU2 := apply_out (r := r) HS.out.2.2.2.1 (by have := hfair.nodes; omega)
   clear hli hmem hcn hcs hrec hfair hsz hput hF
   generalize applyS s r = q at *
   obtain ⟨s2, code⟩ := q
   dsimp only at CAP hI2 hU2
   have H3 := jh (ja hI2 hU2)
   clear hI2 hU2
   haveI : Nonempty (Wd (Only F wr)) := ⟨⟨wr, Only.refl _ _⟩⟩
   go_upto_region 10 with fail
   refine wp_region_mix (.seg [0, 1, 2, 3, 4, 6, 7, 8, 9, 10] 5 (.seg [] 11 (.leaf [12]))) (fun w' => ∃ d : Wd (Only F wr), w' = d.w) (by kernel_rfl) (by kernel_rfl) (fun _ _ d _ _ h => by cases d <;> exact h) (ClsW.mk (D := Only F wr) Only.drew) ?_
   unfold wpMix; simp only [pick, j1, j2, j3, j4]
   (repeat (show wpQuiet _ _ _ _ (_ :: _) _; first | (refine wpQuiet_load_at rfl rfl rfl HCX.out Tryz.underlying46 rfl (by kernel_rfl) ?_; go_simp) | go_big_quiet_step (fail))); refine qn ?_
   go_wp2_with fail
   refine CAP.mono ?_
   clear CAP
   rintro e w3 ⟨rfl, hst3, hO3⟩
   have hO3' : Only F wr w3 := Only.drew.tr (hO3.mono fun k e => by rw [HFD.out]; exact .inl e)
   have hz3 := hO3.size
   have hzd : wr.drew.heap.size = wr.heap.size := rfl
   have hO34 : Only (fun k => k = g ∨ k = g') wr w3 := Only.drew.tr (hO3.mono fun k e => .inl e)
   have hstB : StAt w3 (fun k => w.heap.size ≤ k ∧ k ≠ g ∧ k ≠ g') g' s := (HS.out.2.1.ext (jb _ wr).drew).keep hO3 (fun e => hgg e.symm) (fun k hk e => hk.2.1 e)
   have hre3 : RecAt w3 (fun k => k < w.heap.size) r nA nc pA pc sA sc := HC.out.2.1.ext (Same.of_only hO34 fun k hk e => by rcases e with e | e <;> omega) hO34.size
   have hT3 : Tabs w3 := HS.out.2.2.2.2.2.2.2.2.only hO34 (by intro e; rcases e with e | e <;> omega) (by intro e; rcases e with e | e <;> omega)
   have C4 := CAP2.out w3 hstB hre3 hT3
   unfold StOut ptrV at C4
   dsimp only at C4
   have hstA : StAt w3 (fun k => w.heap.size ≤ k ∧ k ≠ g ∧ k ≠ g') g s2 := hst3.mono fun k hk => by
    rcases hk with h | h
    ·exact h
    ·exact ⟨by omega, by omega, by omega⟩
   have H3A := jh (ja hstA hO34)
   clear hst3 hO3 hstA hstB hre3 hT3 hO34
   go_wp2_with fail
   (refine segw (D := Only F wr) (hO3') ?_; unfold wpMix; simp only [pick, j1, j2, j3, j4]; (repeat (show wpQuiet _ _ _ _ (_ :: _) _; go_big_quiet_step (fail))); refine qn ?_)
   go_wp2_with fail
   refine C4.mono ?_
   clear C4
   rintro e w4 ⟨rfl, hst4, hO4⟩
   have hz4 := hO4.size
   have hO4' : Only F wr w4 := hO3'.tr (hO4.mono fun k e => by rw [HFD.out]; exact .inr e)
   have H4A := jh (ja (H3A.out.1.keep hO4 hgg (fun k hk e => hk.2.2 e)) (ja (show StAt w4 (fun k => w.heap.size ≤ k ∧ k ≠ g ∧ k ≠ g') g' s2 from hst4.mono fun k hk => by
    rcases hk with h | h
    ·exact h
    ·exact ⟨by omega, by omega, by omega⟩) (show Only (fun k => k = g ∨ k = g') w2 w4 from HS.out.2.2.2.2.1.tr (H3A.out.2.tr (hO4.mono fun k e => .inr e)))))
   clear hst4 hO4
   go_wp2_with fail
   (refine segw (D := Only F wr) (hO4') ?_; unfold wpMix; simp only [pick, j1, j2, j3, j4]; (repeat (show wpQuiet _ _ _ _ (_ :: _) _; go_big_quiet_step (fail))); refine qn ?_)
   clear hO3' hO4'
   go_wp2_with fail
   go_round
   case rel => exact ⟨i + 1, s2, by omega, by go_num, H4A.out.1, H4A.out.2.1, by rw [HC.out.1]; exact H3.out.1, H3.out.2, H4A.out.2.2⟩
   case measure => simp [intOf]; omega
  ·have hin2 : i = l.length := by omega
   subst hin2
   have hself := HS.out.2.2.1.self
   have hs0 : s.self ≠ 0 := by omega
   have hlog : s.log.length ≤ 40000 := by have := HS.out.2.2.1.log; omega
   have HS0 := jh (ja hs0 hlog)
   have hIc : Inv s (costEL l) := by have := HS.out.2.2.1; rwa [List.take_length] at this
   have HI := jh hIc
   clear hself hs0 hlog hIc hct
   have CL := slog_any g' s _ wr HS.out.2.1 HS0.out.1 (by have := HS0.out.2; omega)
   unfold ptrV GotOwn at CL
   go_wp2_with fail
   refine CL.mono ?_
   clear CL
   rintro e wa ⟨⟨va, rfl, hoa⟩, hba⟩
   obtain ⟨Aw, cw, rfl, _⟩ := hoa.form
   have HW := jh (ja (hoa.row' event_plain (P := fun q => wr.heap.size ≤ q) fun q hq => (hoa.lt q hq).1) hba)
   clear hoa hba
   have CL := slog_any g s _ wa (HS.out.1.ext HW.out.2) HS0.out.1 (by have := HS0.out.2; omega)
   unfold ptrV GotOwn at CL
   go_wp2_with fail
   refine CL.mono ?_
   clear CL
   rintro e wb ⟨⟨vb, rfl, hob⟩, hbb⟩
   obtain ⟨Ab, cb, rfl, _⟩ := hob.form
   have CE := sameEvents_eq Ab Aw cb cw (fun _ => True) _ wb (hob.row' event_plain fun _ _ => trivial) (HW.out.1.ext hbb) (by have := HS0.out.2; omega)
   have HB := jh hbb
   clear hob hbb
   go_wp2_with fail
   refine CE.mono ?_
   clear CE
   rintro e wc ⟨rfl, hbc⟩
   have HB2 := jh (HB.out.tr hbc)
   clear hbc
   have CR := sranges_any g s _ wc (HS.out.1.ext (HW.out.2.tr HB2.out)) HS0.out.1 (by have := HRG.out; omega)
   unfold ptrV GotOwn at CR
   go_wp2_with fail
   refine CR.mono ?_
   clear CR
   rintro e wd ⟨⟨vd, rfl, hod⟩, hbd⟩
   obtain ⟨Ad, cd, rfl, _⟩ := hod.form
   have HD := jh (ja (hod.row' range_plain (P := fun _ => True) fun _ _ => trivial) (HB2.out.tr hbd))
   clear hod hbd
   have CR := sranges_any g' s _ wd (HS.out.2.1.ext (HW.out.2.tr HD.out.2)) HS0.out.1 (by have := HRG.out; omega)
   unfold ptrV GotOwn at CR
   go_wp2_with fail
   refine CR.mono ?_
   clear CR
   rintro e we ⟨⟨ve, rfl, hoe⟩, hbe⟩
   obtain ⟨Ae, ce, rfl, _⟩ := hoe.form
   have CE := sameRanges_eq Ad Ae cd ce (fun _ => True) (fun _ => True) we (HD.out.1.ext hbe) (hoe.row' range_plain fun _ _ => trivial) (by have := HRG.out; omega)
   have HE := jh (HD.out.2.tr hbe)
   clear hoe hbe
   go_wp2_with fail
   refine CE.mono ?_
   clear CE
   rintro e wf ⟨rfl, hbf⟩
   have HFF2 := jh (HE.out.tr hbf)
   clear hbf
   go_wp2_with fail
   refine (all_any _).mono ?_
   rintro e wg ⟨rfl, hbg⟩
   have HG := jh (HFF2.out.tr hbg)
   clear hbg
   have CT := stakeN_any g s allHashes _ wg (HS.out.1.ext (HW.out.2.tr HG.out)) HF.out
   unfold ptrV GotStN at CT
   go_wp2_with fail
   refine CT.mono ?_
   clear CT
   rintro e wh ⟨⟨Ah, ch, rfl, hrowh⟩, hbh⟩
   have HH := jh (ja hrowh (HG.out.tr hbh))
   clear hrowh hbh
   go_wp2_with fail
   refine (all_any _).mono ?_
   rintro e wi ⟨rfl, hbi⟩
   have HI2 := jh (ja (HH.out.1.ext hbi) (HH.out.2.tr hbi))
   clear hbi
   have CT := stakeN_any g' s allHashes _ wi (HS.out.2.1.ext (HW.out.2.tr HI2.out.2)) HF.out
   unfold ptrV GotStN at CT
   go_wp2_with fail
   refine CT.mono ?_
   clear CT
   rintro e wj ⟨⟨Aj, cj, rfl, hrowj⟩, hbj⟩
   have CS := sameStreams_eq Ah Aj ch cj _ _ wj (HI2.out.1.ext hbj) hrowj (by have := HF.out.fair.put.1; omega) (fun x hx => by have := HF.out.fair.put.2 x hx; omega)
   have HJ := jh (HI2.out.2.tr hbj)
   clear hrowj hbj
   go_wp2_with fail
   refine CS.mono ?_
   clear CS
   rintro e wk ⟨rfl, hbk⟩
   have HK := jh (HJ.out.tr hbk)
   clear hbk
   have CX := slife_any g s _ wk (HS.out.1.ext (HW.out.2.tr HK.out)) HS0.out.1
   unfold ptrV at CX
   go_wp2_with fail
   refine CX.mono ?_
   clear CX
   rintro e wx ⟨rfl, rfl⟩
   have CX := slife_any g' s _ wk (HS.out.2.1.ext (HW.out.2.tr HK.out)) HS0.out.1
   unfold ptrV at CX
   go_wp2_with fail
   refine CX.mono ?_
   clear CX
   rintro e wx ⟨rfl, rfl⟩
   have CX := sceiling_any g s _ wk (HS.out.1.ext (HW.out.2.tr HK.out)) HS0.out.1
   unfold ptrV at CX
   go_wp2_with fail
   refine CX.mono ?_
   clear CX
   rintro e wx ⟨rfl, rfl⟩
   have CX := sceiling_any g' s _ wk (HS.out.2.1.ext (HW.out.2.tr HK.out)) HS0.out.1
   unfold ptrV at CX
   go_wp2_with fail
   refine CX.mono ?_
   clear CX
   rintro e wx ⟨rfl, rfl⟩
   have hhl : s.held.length ≤ 1000000 := by have := held_few HI.out; omega
   have CX := sheld_any g s _ wk (HS.out.1.ext (HW.out.2.tr HK.out)) HS0.out.1 HF.out.held hhl
   unfold ptrV GotHelds at CX
   go_wp2_with fail
   refine CX.mono ?_
   clear CX
   rintro e wl ⟨⟨vl, hs1, rfl, hp1, ho1⟩, hbl⟩
   obtain ⟨Al, cl, rfl, _⟩ := ho1.form
   have hn1 : hs1.length = s.held.length := by rw [hp1.length_eq, List.length_map]
   rw [hn1]
   have HL := jh (HK.out.tr hbl)
   clear ho1 hp1 hn1 hbl
   have CX := sheld_any g' s _ wl (HS.out.2.1.ext (HW.out.2.tr HL.out)) HS0.out.1 HF.out.held hhl
   unfold ptrV GotHelds at CX
   go_wp2_with fail
   refine CX.mono ?_
   clear CX
   rintro e wm ⟨⟨vm, hs2, rfl, hp2, ho2⟩, hbm⟩
   obtain ⟨Am, cm, rfl, _⟩ := ho2.form
   have hn2 : hs2.length = s.held.length := by rw [hp2.length_eq, List.length_map]
   rw [hn2]
   have HM := jh (HL.out.tr hbm)
   clear ho2 hp2 hn2 hbm
   have CX := souts_any g s _ wm (HS.out.1.ext (HW.out.2.tr HM.out)) HS0.out.1 HS.out.2.2.2.1.each (by have := HS.out.2.2.2.1.len; omega)
   unfold ptrV GotOuts at CX
   go_wp2_with fail
   refine CX.mono ?_
   clear CX
   rintro e wn ⟨⟨vn, os1, rfl, hp3, ho3⟩, hbn⟩
   obtain ⟨An, cn, rfl, _⟩ := ho3.form
   have hn3 : os1.length = s.outcomes.length := by rw [hp3.length_eq, List.length_map]
   rw [hn3]
   have HN := jh (HM.out.tr hbn)
   clear ho3 hp3 hn3 hbn
   have CX := souts_any g' s _ wn (HS.out.2.1.ext (HW.out.2.tr HN.out)) HS0.out.1 HS.out.2.2.2.1.each (by have := HS.out.2.2.2.1.len; omega)
   unfold ptrV GotOuts at CX
   go_wp2_with fail
   refine CX.mono ?_
   clear CX
   rintro e wo ⟨⟨vo, os2, rfl, hp4, ho4⟩, hbo⟩
   obtain ⟨Ao, co, rfl, _⟩ := ho4.form
   have hn4 : os2.length = s.outcomes.length := by rw [hp4.length_eq, List.length_map]
   rw [hn4]
   have HO := jh (HN.out.tr hbo)
   clear ho4 hp4 hn4 hbo hhl
   go_wp2_with fail
   have HWO := jh (ja (HW.out.1.ext HO.out) (ja (HW.out.2.tr HO.out) (HS.out.2.2.2.2.2.1.tr (HW.out.2.tr HO.out))))
   have HRM := jh (ja (HS.out.2.2.2.2.2.2.2.1.ext (HW.out.2.tr HO.out)) (ja (HS.out.2.2.2.2.2.2.2.2.below (HW.out.2.tr HO.out)) (HS.out.2.1.ext (HW.out.2.tr HO.out))))
   have hgw : g < wr.heap.size := HS.out.1.lt
   have hgw' : g' < wr.heap.size := HS.out.2.1.lt
   generalize wr = wq at *
   go_loopw [11] (fun iv wx => ∃ (i : Nat) (s2 : St), i ≤ more.length ∧ iv = .int .i64 i ∧ StAt wx (fun k => w.heap.size ≤ k ∧ k ≠ g ∧ k ≠ g') g s2 ∧ Inv s2 (costEL l + costEL (more.take i)) ∧ (∃ E, s2.log = s.log ++ E) ∧ Only (fun k => k = g) wo wx) (fun iv _ => more.length - (intOf iv).toNat)
   case atStart => exact ⟨0, s, Nat.zero_le _, rfl, HS.out.1.ext HWO.out.2.1, HI.out.mono (by omega), ⟨[], by simp⟩, Only.refl _ _⟩
   case round =>
    obtain ⟨j, s2, hjn, rfl, hst, hI, ⟨E, hE⟩, hO⟩ := hrel
    have hzo := hO.size
    have hzwo := HWO.out.2.1.size
    have hct := costEL_tk more j
    have hcl2 : costEL more ≤ 18200 := by have h1 := HSM2.out.2; have h2 := costEL_size more; omega
    have hrm : RecR.Row wr (fun k => k < w.heap.size) A' more := HRM.out.1.same (Same.of_only hO fun k hk e => by have e' : k = g := e; omega) hO.size
    have hTr : Tabs wr := HRM.out.2.1.only hO (by intro e; have e' : 0 = g := e; omega) (by intro e; have e' : 1 = g := e; omega)
    have HS2 := jh (ja hst (ja hI (ja hE (ja hO (ja hrm hTr)))))
    have HF2 := jh (hI.fit (by omega))
    have HFF3 := jh (fresh_few hI (by omega))
    have HRG2 := jh (show s2.ring.length ≤ 64 from (sound_iff.1 hI.ring).2)
    clear hst hI hE hO hrm hTr
    by_cases hjt : j < more.length
    ·have hjt' : (j : Int) < more.length := by omega
     have hli := jg hjt
     have hmem := List.getElem_mem hjt
     have hcn := costEL_take hjt
     have hcn1 := costEL_tk more (j + 1)
     have hsz : sizeR more[j] ≤ 20000 := by have h1 := HSM2.out.2; have h2 := (sizeRs_bd more).2 _ hmem; omega
     have hfair := sizeR_fair hsz
     have hput := sizeR_put hsz
     obtain ⟨bb, o, nA, nc, pA, pc, sA, sc, rfl, hbw, hrec, hcs⟩ := recs_at HS2.out.2.2.2.2.1 hli
     generalize more[j] = r at *
     have HC := jh (ja hcn (ja hcs (ja hrec hfair)))
     have CAP := applyAll_any g s2 r nA pA sA nc pc sc _ (fun k => k < w.heap.size) wr HS2.out.1 (fun h => h.2.1 rfl) HF2.out hrec (fun h => by omega) hfair HS2.out.2.2.2.2.2 (by omega) hput (by have := HRG2.out; omega) HFF3.out
     unfold StOut ptrV at CAP
     have hI2 := apply_invE (r := r) HS2.out.2.1 (by omega)
     obtain ⟨E2, hE2⟩ := apply_log s2 r
     clear hli hmem hcn hcs hrec hfair hsz hput
     generalize applyS s2 r = q at *
     obtain ⟨s3, code⟩ := q
     dsimp only at CAP hI2 hE2
     have H3 := jh (ja hI2 hE2)
     clear hI2 hE2
     go_wp2_with (first
      | ((with_reducible refine wpList_load_at rfl rfl ?_ HC.out.2.1 Tryz.underlying46 rfl (by kernel_rfl) ?_); · rfl)
      | fail)
     refine CAP.mono ?_
     clear CAP
     rintro e w3 ⟨rfl, hst3, hO3⟩
     have H4 := jh (ja (hst3.mono (Q := fun k => w.heap.size ≤ k ∧ k ≠ g ∧ k ≠ g') (fun k hk => by
      rcases hk with h | h
      ·exact h
      ·exact ⟨by omega, by omega, by omega⟩)) hO3)
     clear hst3 hO3
     go_wp2_with fail
     go_round
     case rel => exact ⟨j + 1, s3, by omega, by go_num, H4.out.1, by rw [HC.out.1, ← Nat.add_assoc]; exact H3.out.1, ⟨E ++ E2, by rw [H3.out.2, HS2.out.2.2.1, List.append_assoc]⟩, HS2.out.2.2.2.1.tr H4.out.2⟩
     case measure => simp [intOf]; omega
    ·have hs20 : s2.self ≠ 0 := HF2.out.self
     have hlog2 : s2.log.length ≤ 40000 := HF2.out.fair.log
     have hlen : s2.log.length = s.log.length + E.length := by rw [HS2.out.2.2.1, List.length_append]
     have HX := jh (ja hs20 (ja hlog2 hlen))
     have HWX := jh (ja (HWO.out.1.same (Same.of_only HS2.out.2.2.2.1 fun k hk e => by have e' : k = g := e; have hk' : wq.heap.size ≤ k := hk; omega) HS2.out.2.2.2.1.size) (ja (HRM.out.2.2.keep HS2.out.2.2.2.1 (fun e => hgg e.symm) (fun k hk e => hk.2.1 e)) (HWO.out.2.2.trans (HS2.out.2.2.2.1.low (fun k e => by have e' : k = g := e; omega) (by have := HWO.out.2.2.size; omega)))))
     clear hs20 hlog2 hlen
     have CL := slog_any g s2 _ wr HS2.out.1 HX.out.1 (by have := HX.out.2.1; omega)
     unfold ptrV GotOwn at CL
     go_wp2_with fail
     refine CL.mono ?_
     clear CL
     rintro e x1 ⟨⟨u1, rfl, ho1⟩, hb1⟩
     obtain ⟨B1, d1, rfl, hd1, hd2⟩ := ho1.form
     have hrow1 : EventR.Row x1 (fun _ => True) B1 s2.log := ho1.row' event_plain fun _ _ => trivial
     have hpre : EventR.Row x1 (fun _ => True) B1 s.log := by
      have h := hrow1.pre s.log.length
      rw [HS2.out.2.2.1, List.take_left] at h
      exact h
     have hd3 : s.log.length ≤ d1 := by have := HX.out.2.2; omega
     have hd4 : (s.log.length : Int) ≤ s2.log.length := by have := HX.out.2.2; omega
     have hd5 : (s2.log.length : Int) ≤ d1 := by omega
     have H1 := jh (ja hpre (ja (HWX.out.1.ext hb1) (ja (HWX.out.2.1.ext hb1) (HWX.out.2.2.tr hb1))))
     clear ho1 hb1 hrow1 hpre
     have CE := sameEvents_eq B1 Aw d1 cw (fun _ => True) _ x1 H1.out.1 H1.out.2.1 (by have := HS0.out.2; omega)
     go_wp2_with fail
     refine CE.mono ?_
     clear CE
     rintro e x2 ⟨rfl, hb2⟩
     have H2X := jh (ja (H1.out.2.1.ext hb2) (ja (H1.out.2.2.1.ext hb2) (H1.out.2.2.2.tr hb2)))
     clear hb2
     have CL := slog_any g' s _ x2 H2X.out.2.1 HS0.out.1 (by have := HS0.out.2; omega)
     unfold ptrV GotOwn at CL
     go_wp2_with fail
     refine CL.mono ?_
     clear CL
     rintro e x3 ⟨⟨u3, rfl, ho3⟩, hb3⟩
     obtain ⟨B3, d3, rfl, _⟩ := ho3.form
     have CE := sameEvents_eq B3 Aw d3 cw (fun _ => True) _ x3 (ho3.row' event_plain fun _ _ => trivial) (H2X.out.1.ext hb3) (by have := HS0.out.2; omega)
     have H3X := jh (H2X.out.2.2.tr hb3)
     clear ho3 hb3
     go_wp2_with fail
     refine CE.mono ?_
     clear CE
     rintro e x4 ⟨rfl, hb4⟩
     have H4X := jh (H3X.out.tr hb4)
     clear hb4
     go_wp2_with fail
     refine (CA.out x4 H4X.out).mono ?_
     rintro e x5 ⟨rfl, hb5⟩
     go_wp2_with fail
     go_ret
     exact ⟨rfl, H4X.out.tr hb5⟩
end Go.Proofs.YtcmjgghkmdbphaaGreatDoor
namespace Go.Proofs.YtcmjgghkmdbphaaGreatDoor
set_option maxRecDepth 100000
open Go.RowKit Go.ChangeShapes Go.WideShapes Go.Deep
def Opens {α : Type} (R : Rep α) (t : TypeId) : Prop := Tryz.prog.cellsOf t = R.size ∧ ∀ (H : Type) (enc : TypeId × Value → H) (w : World) (base : Nat) (sp : Nat → Bool) (held : Bool) (fuel : Nat) (cs : List Value) (x : DataW H × List MemPlace),
 DataW.trod enc Tryz.prog w base sp held fuel t cs = some x → ∃ a, R.rep w (fun g => g < w.heap.size) cs a
def Parts {H : Type} (enc : TypeId × Value → H) (w : World) (base : Nat) (sp : Nat → Bool) (held : Bool) (fuel : Nat) : List TypeId → List Value → Prop
 | [], cs => cs = []
 | t :: ts, cs => (∃ y, DataW.trod enc Tryz.prog w base sp held fuel t (cs.take (Tryz.prog.cellsOf t)) = some y) ∧ Parts enc w base sp held fuel ts (cs.drop (Tryz.prog.cellsOf t))
def OpensF {α : Type} (R : Rep α) (ts : List TypeId) : Prop := ∀ (H : Type) (enc : TypeId × Value → H) (w : World) (base : Nat) (sp : Nat → Bool) (held : Bool) (fuel : Nat) (cs : List Value), Parts enc w base sp held fuel ts cs → ∃ a, R.rep w (fun g => g < w.heap.size) cs a
def offB (P : Program) (n : Nat) : List Field → Nat → Bool
 | [], off => decide (off = n)
 | f :: r, off => decide (f.offset = off) && offB P n r (off + P.cellsOf f.type)
section
variable {α β : Type} {R : Rep α} {S : Rep β}
theorem parts_of {H : Type} {enc : TypeId × Value → H} {w : World} {base : Nat} {sp : Nat → Bool} {held : Bool} {fuel : Nat} {cs : List Value} : ∀ (fs : List Field) (off : Nat), (∀ f ∈ fs, ∃ y, DataW.trod enc Tryz.prog w base sp held fuel f.type ((cs.drop f.offset).take (Tryz.prog.cellsOf f.type)) = some y) → offB Tryz.prog cs.length fs off = true →
 Parts enc w base sp held fuel (fs.map (·.type)) (cs.drop off)
 | [], off, _, ho => by
   simp only [offB, decide_eq_true_eq] at ho
   subst ho
   simp [Parts]
 | f :: r, off, h, ho => by
   simp only [offB, Bool.and_eq_true, decide_eq_true_eq] at ho
   obtain ⟨rfl, ho⟩ := ho
   refine ⟨h f (by simp), ?_⟩
   have := parts_of r _ (fun g hg => h g (by simp [hg])) ho
   rwa [List.drop_drop]
theorem Opens.one {t : TypeId} (h : Opens R t) : OpensF R [t] := fun H enc w base sp held fuel cs hp => by
 obtain ⟨⟨y, hy⟩, hd⟩ := hp
 obtain ⟨a, ha⟩ := h.2 _ _ _ _ _ _ _ _ _ hy
 simp only [Parts] at hd
 rw [List.take_of_length_le (by simpa using hd)] at ha
 exact ⟨a, ha⟩
theorem Opens.more {t : TypeId} {ts : List TypeId} (h : Opens R t) (k : OpensF S ts) : OpensF (R.cat S) (t :: ts) := fun H enc w base sp held fuel cs hp => by
 obtain ⟨⟨y, hy⟩, hd⟩ := hp
 obtain ⟨a, ha⟩ := h.2 _ _ _ _ _ _ _ _ _ hy
 obtain ⟨b, hb⟩ := k _ _ _ _ _ _ _ _ hd
 exact ⟨(a, b), _, _, (List.take_append_drop _ _).symm, ha, hb⟩
theorem OpensF.struct {fs : Array Field} {t : TypeId} (ht : Tryz.prog.underlying t = some (.struct fs)) (hc : Tryz.prog.cellsOf t = R.size) (ho : offB Tryz.prog (Tryz.prog.cellsOf t) fs.toList 0 = true) (h : OpensF R (fs.toList.map (·.type))) : Opens R t := ⟨hc, fun H enc w base sp held fuel cs x hx => by
 obtain ⟨xs, n, _, _, hl, hxl, hf⟩ := DataW.trod_struct ht hx
 have := parts_of (enc := enc) (w := w) (base := base) (sp := sp) (held := held) (fuel := n) (cs := cs) fs.toList 0 (fun f hfm => by
  obtain ⟨i, hi, rfl⟩ := List.getElem_of_mem hfm
  have h1 := hf i fs.toList[i] (by simp at hi; simp [hi])
  rw [h1]
  have : i < xs.length := by rw [hxl]; simpa using hi
  exact ⟨xs[i], jg this⟩) (by rw [hl]; exact ho)
 exact h _ _ _ _ _ _ _ _ (by simpa using this)⟩
theorem Opens.via {t : TypeId} {f : β → α} (g : α → β) (hg : ∀ a, f (g a) = a) (h : Opens R t) : Opens (R.via f) t := ⟨h.1, fun H enc w base sp held fuel cs x hx => by
 obtain ⟨a, ha⟩ := h.2 _ _ _ _ _ _ _ _ _ hx
 refine ⟨g a, ?_⟩
 show R.rep _ _ _ (f (g a))
 rw [hg]; exact ha⟩
theorem Opens.sl {t e : TypeId} (ht : Tryz.prog.underlying t = some (.slice e)) (hc : Tryz.prog.cellsOf t = 1) (h : Opens R e) : Opens R.sl t := ⟨hc, fun H enc w base sp held fuel cs x hx => by
 rcases open_slice ht hx with ⟨h0, _⟩ | ⟨a, len, cap, m, n, D, Pl, hcs, hb, hl, hcap, hmm, _, hi⟩
 ·exact ⟨[], none, 0, h0, Nat.le_refl _, by simp, Rep.Row.nil_⟩
 ·have hlm : len ≤ m := by rw [hmm]; split <;> omega
  rw [h.1] at hi
  have hcap' : cap ≤ 9223372036854775807 := by unfold maxLen at hcap; omega
  by_cases hz : len = 0
  ·exact ⟨[], some a, cap, by rw [hcs, hz]; rfl, Nat.zero_le _, hcap', Rep.Row.nil_⟩
  have key : ∀ i, i < len → ∃ cs' y, R.rep w (fun g => g < w.heap.size) cs' y ∧ ∀ j u, cs'[j]? = some u → w.cell? (a.add (i * R.size + j)) = some u := fun i hil => by
   obtain ⟨cs', h1, h2⟩ := hi i (by omega)
   obtain ⟨y, hy⟩ := h.2 _ _ _ _ _ _ _ _ _ h2
   obtain ⟨_, _, hat⟩ := World.cells?_some h1
   refine ⟨cs', y, hy, fun j u hu => ?_⟩
   have hj : j < R.size := by have := (List.getElem?_eq_some_iff.1 hu).1; rwa [R.len hy] at this
   have := hat j hj
   rw [add_of_add] at this
   exact this.trans hu
  have first : ∃ u, w.cell? a = some u := by
   obtain ⟨cs', y, hy, hat⟩ := key 0 (by omega)
   have hp := R.pos
   have hl : 0 < cs'.length := by rw [R.len hy]; exact hp
   have := hat 0 cs'[0] (jg hl)
   exact ⟨cs'[0], by simpa [Addr.add] using this⟩
  obtain ⟨u0, hu0⟩ := first
  have hbl := lt_of_cell hu0
  obtain ⟨b, o, q⟩ := a
  have hq : q = none := by
   cases q with
   | none => rfl
   | some q =>
     simp only [World.cell?] at hu0
     split at hu0 <;> cases hu0
  subst hq
  have list : ∀ k, k ≤ len → ∃ l : List α, l.length = k ∧ ∀ i y, l[i]? = some y → ∃ cs', R.rep w (fun g => g < w.heap.size) cs' y ∧ ∀ j u, cs'[j]? = some u → w.cell? ⟨b, o + i * R.size + j, none⟩ = some u := by
   intro k
   induction k with
   | zero => intro _; exact ⟨[], rfl, by simp⟩
   | succ k ih =>
     intro hk
     obtain ⟨l, hn, hl'⟩ := ih (by omega)
     obtain ⟨cs', y, hy, hat⟩ := key k (by omega)
     refine ⟨l ++ [y], by simp [hn], fun i y' hi' => ?_⟩
     by_cases hik : i < k
     ·rw [List.getElem?_append_left (by omega)] at hi'
      exact hl' i y' hi'
     ·rw [List.getElem?_append_right (by omega), hn] at hi'
      have : i = k := by
       have := (List.getElem?_eq_some_iff.1 hi').1
       simp at this; omega
      subst this
      simp at hi'
      subst hi'
      refine ⟨cs', hy, fun j u hu => ?_⟩
      have := hat j u hu
      rwa [add_off, ← Nat.add_assoc] at this
  obtain ⟨l, hn, hl'⟩ := list len (Nat.le_refl _)
  subst hn
  exact ⟨l, _, cap, hcs, hl, hcap', fun _ => ⟨b, o, rfl, hbl, hbl, hl'⟩⟩⟩
theorem opens_int : Opens IntR 3 := ⟨by kernel_rfl, fun H enc w base sp held fuel cs x hx => by
 obtain ⟨n, rfl, _, h⟩ := DataW.trod_int Tryz.underlying3 hx
 exact ⟨n, rfl, by have := h; simp only [Lit.wf, Bool.and_eq_true, decide_eq_true_eq, show IntKind.i64.min = -9223372036854775808 from by decide, show IntKind.i64.max = 9223372036854775807 from by decide] at this; omega⟩⟩
theorem opens_string : Opens StrR 9 := ⟨by kernel_rfl, fun H enc w base sp held fuel cs x hx => by
 obtain ⟨s, rfl, _, h⟩ := DataW.trod_string Tryz.underlying9 hx
 exact ⟨s, rfl, by unfold maxLen at h; omega⟩⟩
theorem opens_bool : Opens BoolR 4 := ⟨by kernel_rfl, fun H enc w base sp held fuel cs x hx => by
 obtain ⟨b, rfl, _⟩ := DataW.trod_bool Tryz.underlying4 hx
 exact ⟨b, rfl⟩⟩
end
theorem opens_strings : Opens StrR.sl 67 := opens_string.sl Tryz.underlying67 (by kernel_rfl)
theorem opens_ints : Opens IntR.sl 43 := opens_int.sl Tryz.underlying43 (by kernel_rfl)
theorem opens_stamp : Opens StampR 40 := Opens.via (fun s => ⟨s.1, s.2.1, s.2.2⟩) (fun _ => rfl) (OpensF.struct Tryz.underlying40 (by kernel_rfl) (by kernel_rfl) (opens_int.more (opens_int.more opens_int.one)))
theorem opens_tx : Opens TxR 42 := Opens.via (fun s => ⟨s.1, s.2.1, s.2.2⟩) (fun _ => rfl) (OpensF.struct Tryz.underlying42 (by kernel_rfl) (by kernel_rfl) (opens_int.more (opens_int.more opens_int.one)))
theorem opens_range : Opens RangeR 27 := Opens.via (fun s => ⟨s.1, s.2.1, s.2.2.1, s.2.2.2⟩) (fun _ => rfl) (OpensF.struct Tryz.underlying27 (by kernel_rfl) (by kernel_rfl) (opens_int.more (opens_int.more (opens_int.more opens_int.one))))
theorem opens_put : Opens PutR 69 := Opens.via (fun s => ⟨s.1, s.2.1, s.2.2⟩) (fun _ => rfl) (OpensF.struct Tryz.underlying69 (by kernel_rfl) (by kernel_rfl) (opens_string.more (opens_int.more opens_strings.one)))
theorem opens_puts : Opens PutR.sl 23 := opens_put.sl Tryz.underlying23 (by kernel_rfl)
theorem opens_batch : Opens BatchR 25 := Opens.via (fun s => ⟨s.1, s.2⟩) (fun _ => rfl) (OpensF.struct Tryz.underlying25 (by kernel_rfl) (by kernel_rfl) (opens_string.more opens_puts.one))
theorem opens_event : Opens EventR 202 := Opens.via (fun s => ⟨s.1, s.2.1, s.2.2.1, s.2.2.2.1, s.2.2.2.2⟩) (fun _ => rfl) (OpensF.struct Tryz.underlying202 (by kernel_rfl) (by kernel_rfl) (opens_string.more (opens_int.more (opens_string.more (opens_stamp.more opens_int.one)))))
theorem opens_events : Opens EventR.sl 64 := opens_event.sl Tryz.underlying64 (by kernel_rfl)
theorem opens_known : Opens KnownR 49 := Opens.via (fun s => ⟨s.1, s.2.1, s.2.2⟩) (fun _ => rfl) (OpensF.struct Tryz.underlying49 (by kernel_rfl) (by kernel_rfl) (opens_string.more (opens_int.more opens_stamp.one)))
theorem opens_knowns : Opens KnownR.sl 197 := opens_known.sl Tryz.underlying197 (by kernel_rfl)
theorem opens_stream : Opens StreamR 199 := Opens.via (fun s => ⟨s.1, s.2.1, s.2.2⟩) (fun _ => rfl) (OpensF.struct Tryz.underlying199 (by kernel_rfl) (by kernel_rfl) (opens_string.more (opens_events.more opens_knowns.one)))
theorem opens_streams : Opens StreamR.sl 44 := opens_stream.sl Tryz.underlying44 (by kernel_rfl)
theorem opens_rec : Opens RecR 46 := Opens.via (fun s => ⟨s.1, s.2.1, s.2.2.1, s.2.2.2.1, s.2.2.2.2.1, s.2.2.2.2.2.1, s.2.2.2.2.2.2.1, s.2.2.2.2.2.2.2.1, s.2.2.2.2.2.2.2.2.1, s.2.2.2.2.2.2.2.2.2⟩) (fun _ => rfl)
 (OpensF.struct Tryz.underlying46 (by kernel_rfl) (by kernel_rfl) (opens_int.more (opens_int.more (opens_int.more (opens_bool.more (opens_stamp.more (opens_tx.more (opens_ints.more (opens_batch.more (opens_range.more opens_streams.one))))))))))
theorem opens_recs : Opens RecR.sl 22 := opens_rec.sl Tryz.underlying22 (by kernel_rfl)
end Go.Proofs.YtcmjgghkmdbphaaGreatDoor
