/- StateRanges: the law's walk. Arguments opened: what is read as a datum is one of ours. -/
import Derived.Test.YtpgocpodhamibaaGreatDoorR03
import Derived.Test.YtpgocpodhamibaaGreatDoorR07
import Derived.Laws.StructEq
import Derived.Test.YtpgocpodhamibaaGreatDoorRK01
import Derived.Test.YtpgocpodhamibaaGreatDoorProg
import Derived.Deep.Slices
import Derived.ChangeSame
import Derived.ChangeArms
namespace Go.Proofs.YtpgocpodhamibaaGreatDoor
open Go.RowKit

theorem i64_wf {n : Int} (h : (Lit.int .i64 n).wf = true) : i64 n := by
  have h1 : IntKind.i64.min ≤ n ∧ n ≤ IntKind.i64.max := by simpa [Lit.wf] using h
  have e1 : IntKind.i64.min = -9223372036854775808 := rfl
  have e2 : IntKind.i64.max = 9223372036854775807 := rfl
  rw [e1, e2] at h1
  exact h1
set_option maxRecDepth 20000 in
set_option maxHeartbeats 12800000 in
theorem ranges_law (self nodes : Int) (l : List Rec) (A : Option Addr) (c : Nat) (w : World) (hi1 : i64 self) (hi2 : i64 nodes) (hr : RecR.Row w (fun k => k < w.heap.size) A l) (hc : l.length ≤ c ∧ c ≤ 9223372036854775807) (hT : Tabs w) (h2 : 2 ≤ w.heap.size) :
    Calls Tryz.prog 4 #[.int .i64 self, .int .i64 nodes, .slice A l.length c] w fun e w' => e = .returned (.bool true) ∧ Below w.heap.size w w' := by
  have CA := Lib.hid (fun W (hW : Below w.heap.size w W) => awake_any W (hT.below hW) (by have := hW.size; omega))
  have HR := Lib.hid (show RcB w l A w from ⟨hr, hT, Below.refl _ _⟩)
  have C1 := small_any l A c _ w hr hc
  have HI := Lib.hid (And.intro hi1 hi2)
  clear hr hT hi1 hi2
  go_enter Tryz.func4, Tryz.ntmps4
  go_wp2_with fail
  refine C1.mono ?_
  clear C1
  rintro e w0 ⟨⟨sb, rfl, hsb⟩, hb0⟩
  have H0 := Lib.hid (HR.out.ext hb0)
  clear hb0
  cases sb
  · clear hsb
    go_wp2_with fail
    refine (CA.out w0 H0.out.below).mono ?_
    rintro e w1 ⟨rfl, hb1⟩
    go_wp2_with fail
    go_ret
    exact ⟨rfl, H0.out.below.tr hb1⟩
  have HSM := Lib.hid (hsb rfl)
  have hl80 : (l.length : Int) ≤ 80 := by have := HSM.out.1; omega
  have hz0 := H0.out.below.size
  clear hsb HR hc
  have C2 := newState_any self nodes w0 HI.out.1 HI.out.2
  unfold GotState at C2
  cases hnw : newS self nodes with
  | none =>
    rw [hnw] at C2
    dsimp only at C2
    clear hnw
    go_wp2_with fail
    refine C2.mono ?_
    clear C2
    rintro e w1 ⟨rfl, hb1⟩
    have H1 := Lib.hid (H0.out.below.tr hb1)
    clear hb1
    go_wp2_with fail
    refine (CA.out w1 H1.out).mono ?_
    rintro e w2 ⟨rfl, hb2⟩
    go_wp2_with fail
    go_ret
    exact ⟨rfl, H1.out.tr hb2⟩
  | some s0 =>
  rw [hnw] at C2
  dsimp only at C2
  have HNW := Lib.hid hnw
  clear hnw
  go_wp2_with fail
  refine C2.mono ?_
  clear C2
  rintro e w1 ⟨⟨g, rfl, hg, hst, _⟩, hb1⟩
  have hz1 := hb1.size
  have hgl := hst.lt
  have H1 := Lib.hid (And.intro (hst.mono (Q := fun k => w.heap.size ≤ k ∧ k ≠ g) (fun k hk => ⟨by have := hk.1; omega, hk.2⟩)) (H0.out.ext hb1))
  clear hst hb1
  unfold ptrV
  go_wp2_with fail
  go_loopw [9] (fun iv wr => ∃ (i : Nat) (s : St), i ≤ l.length ∧ iv = .int .i64 i ∧ StAt wr (fun k => w.heap.size ≤ k ∧ k ≠ g) g s ∧ Inv s (costL (l.take i)) ∧ s.self = self ∧ Only (fun k => k = g) w1 wr) (fun iv _ => l.length - (intOf iv).toNat)
  case atStart => exact ⟨0, s0, Nat.zero_le _, rfl, H1.out.1, inv_new HNW.out, newS_self HNW.out, Only.refl _ _⟩
  case round =>
    obtain ⟨i, s, hin, rfl, hst, hI, hsf, hO⟩ := hrel
    have hzr := hO.size
    have hRB := H1.out.2.only hO (by omega) (by omega)
    have hct := costL_tk l i
    have hcl : costL l ≤ 20000 := by have h1 := HSM.out.2; have h2 := (sizeRs_bd l).1; omega
    have HS := Lib.hid (And.intro hst (And.intro hI (And.intro hsf (And.intro hO hRB))))
    have HF := Lib.hid (hI.fit (by omega))
    have HFF := Lib.hid (fresh_few hI (by omega))
    have HRG := Lib.hid (show s.ring.length ≤ 300 from by have := (sound_iff.1 hI.ring).2; omega)
    clear hst hI hsf hO hRB
    by_cases hlt : i < l.length
    · have hlt' : (i : Int) < l.length := by omega
      have hli := List.getElem?_eq_getElem hlt
      have hmem := List.getElem_mem hlt
      have hcn := costL_take hlt
      have hcn1 := costL_tk l (i + 1)
      have hsz : sizeR l[i] ≤ 20000 := by have h1 := HSM.out.2; have h2 := (sizeRs_bd l).2 _ hmem; omega
      have hfair := sizeR_fair hsz
      have hput := sizeR_put hsz
      obtain ⟨bb, o, nA, nc, pA, pc, sA, sc, rfl, hbw, hrec, hcs⟩ := recs_at HS.out.2.2.2.2.r hli
      generalize l[i] = r at *
      have HC := Lib.hid (And.intro hcn (And.intro hcs (And.intro hrec hfair)))
      have CAP := applyAll_any g s r nA pA sA nc pc sc _ (fun k => k < w.heap.size) wr HS.out.1 (fun h => h.2 rfl) HF.out hrec (fun h => by omega) hfair HS.out.2.2.2.2.tabs (by omega) hput HRG.out HFF.out
      clear hli hmem hcn hcs hrec hfair hsz hput
      unfold StOut ptrV at CAP
      have hI2 := apply_inv (r := r) HS.out.2.1 (by omega)
      have hs2 := apply_self s r
      generalize applyS s r = q at CAP hI2 hs2
      obtain ⟨s2, code⟩ := q
      dsimp only at CAP hI2 hs2
      have H2 := Lib.hid (And.intro hI2 hs2)
      clear hI2 hs2
      go_wp2_with (first
        | ((with_reducible refine wpList_load_at rfl rfl ?_ HC.out.2.1 Tryz.underlying43 rfl (by kernel_rfl) ?_); · rfl)
        | fail)
      refine CAP.mono ?_
      clear CAP
      rintro e w3 ⟨rfl, hst3, hO3⟩
      have H3 := Lib.hid (And.intro (hst3.mono (Q := fun k => w.heap.size ≤ k ∧ k ≠ g) (fun k hk => by
        rcases hk with h | h
        · exact h
        · exact ⟨by omega, by omega⟩)) hO3)
      have hz3 := hO3.size
      clear hst3 hO3
      have hs20 : s2.self ≠ 0 := by have := H2.out.1.self; omega
      have hrg : s2.ring.length ≤ 64 := (sound_iff.1 H2.out.1.ring).2
      have CR := sranges_any g s2 _ w3 H3.out.1 hs20 (by omega)
      unfold ptrV GotOwn at CR
      go_wp2_with fail
      refine CR.mono ?_
      clear CR
      rintro e w4 ⟨⟨v4, rfl, ho4⟩, hb4⟩
      obtain ⟨A4, c4, rfl, hc41, hc42⟩ := ho4.form
      have CS := rsound_any A4 c4 s2.ring (fun _ => True) w4 ((ho4.mono (S' := fun _ => True) fun _ _ _ => trivial).row fun _ _ => trivial) H2.out.1.ring
      have H4 := Lib.hid hb4
      clear ho4 hb4 hc41 hc42
      go_wp2_with fail
      refine CS.mono ?_
      clear CS
      rintro e w5 ⟨rfl, hb5'⟩
      have H5 := Lib.hid (H4.out.tr hb5')
      clear hb5'
      have hfl : s2.frozen.length ≤ 1000000 := by have := (H2.out.1.fit (by rw [← HC.out.1]; omega)).frozen; omega
      have CFz := sfrozen_any g s2 _ w5 (by obtain ⟨v', a1, a2⟩ := H3.out.1; exact ⟨v', a1.ext H5.out, a2.same (Same.of_below H5.out)⟩) hs20 hfl
      unfold ptrV GotOwn at CFz
      go_wp2_with fail
      refine CFz.mono ?_
      clear CFz
      rintro e w6 ⟨⟨v6, rfl, ho6⟩, hb6'⟩
      obtain ⟨A6, c6, rfl, hc61, hc62⟩ := ho6.form
      have H6 := Lib.hid (And.intro ((ho6.mono (S' := fun _ => True) fun _ _ _ => trivial).row fun _ _ => trivial) (H5.out.tr hb6'))
      clear ho6 hb6' hc61 hc62
      go_wp2_with fail
      go_loopw [11] (fun kv wx => ∃ k : Nat, k ≤ s2.frozen.length ∧ kv = .int .i64 k ∧ Below w6.heap.size w6 wx) (fun kv _ => s2.frozen.length - (intOf kv).toNat)
      case atStart => exact ⟨0, Nat.zero_le _, rfl, Below.refl _ _⟩
      case round =>
        obtain ⟨k, hkn, rfl, hbx⟩ := hrel
        have hzx := hbx.size
        by_cases hlk : k < s2.frozen.length
        · have hlk' : (k : Int) < s2.frozen.length := by omega
          have hk1 := List.getElem?_eq_getElem hlk
          have hff := frozen_find H2.out.1 (List.getElem_mem hlk)
          obtain ⟨b2, o2, nA', nc', pA', pc', sA', sc', rfl, hbw2, hrec2, hcs2⟩ := recs_at (H6.out.1.ext hbx) hk1
          generalize s2.frozen[k] = f at *
          obtain ⟨hf0, hf1, hf2, hf3, hf4⟩ := hff
          have HFD := Lib.hid (And.intro hf2 (And.intro hf3 hf4))
          have HC2 := Lib.hid hcs2
          have z13 := On.cell (hcs2 13 _ rfl : wr.cell? ⟨b2, o2 + k * 18 + 13, none⟩ = some (.int .i64 f.range.first))
          have HX := Lib.hid (And.intro hbx (H6.out.2.tr hbx))
          have CRx := fun W (hW : Below wr.heap.size wr W) => sranges_any g s2 _ W (by obtain ⟨v', a1, a2⟩ := H3.out.1; exact ⟨v', a1.ext ((HX.out.2).tr hW), a2.same (Same.of_below ((HX.out.2).tr hW))⟩) hs20 (by omega)
          have CFx := fun (A : Option Addr) (c : Nat) W (hW : RangeR.Row W (fun _ => True) A s2.ring) => rfind_any A c s2.ring f.range.first _ W hW H2.out.1.ring hf0 hf1
          unfold ptrV GotOwn at CRx
          unfold Found at CFx
          rw [hf2] at CFx
          dsimp only at CFx
          clear hk1 hf0 hf1 hf2 hf3 hf4 hrec2 hcs2 hbx
          go_upto_region 16 with fail
          go_cut [12, 13] (fun xv okv wc => ∃ xb : Nat, xv = .pointer (some ⟨xb, 0, none⟩) ∧ okv = .bool true ∧ Blk wc xb 40 f.range.cells ∧ Below wr.heap.size wr wc ∧ wr.heap.size ≤ xb)
          case first =>
            refine wp_region_mix (.fork [0, 2, 3, 4, 5, 6, 7] 1 (.fork [] 8 (.seg [9, 10, 11] 12 (.seg [] 13 (.leaf [14]))) 12 (.seg [] 8 (.seg [9, 10, 11] 13 (.leaf [14])))) 12 (.seg [] 1 (.seg [] 8 (.seg [9, 10, 11] 13 (.leaf [14]))))) (fun w' => ∃ d : Wd (On wr), w' = d.w) (by kernel_rfl) (by kernel_rfl) (fun _ _ d _ _ h => by cases d <;> exact h) (ClsW.mk (Below.refl _ _).drew) ?_
            unfold wpMix; simp only [pick, p1, p2, p3, p4]
            (repeat (show wpQuiet _ _ _ _ (_ :: _) _; go_big_quiet_step (fail))); refine qn ?_
            constructor
            · go_wp2_with fail
              refine (CRx wr.drew (Below.refl _ wr).drew).mono ?_
              rintro e w7 ⟨⟨v7, rfl, ho7⟩, hb7'⟩
              have hb7 : Below wr.heap.size wr w7 := (Below.refl _ wr).drew.tr hb7'
              obtain ⟨A7, c7, rfl, hc71, hc72⟩ := ho7.form
              have HO7 := Lib.hid ((ho7.mono (S' := fun _ => True) fun _ _ _ => trivial).row fun _ _ => trivial)
              clear hb7' ho7
              go_wp2_with fail
              dsimp only [wpList, SegQ]
              refine ⟨fun w' => ∃ d : Wd (On wr), w' = d.w, ClsW.mk hb7, fun _ h => h, ?_⟩
              unfold wpMix; simp only [pick, p1, p2, p3, p4]
              (repeat (show wpQuiet _ _ _ _ (_ :: _) _; go_big_quiet_step (fail))); refine qn ?_
              constructor
              · go_wp2_with fail
                refine (CFx A7 c7 w7 HO7.out).mono ?_
                rintro e w8 ⟨rfl, hb8'⟩
                have hb8 : Below wr.heap.size wr w8 := hb7.tr hb8'
                clear hb8'
                go_wp2_with fail
                (dsimp only [wpList, SegQ]; refine ⟨fun w' => ∃ d : Wd (On wr), w' = d.w, ClsW.mk (hb8), fun _ h => h, ?_⟩; unfold wpMix; simp only [pick, p1, p2, p3, p4]; (repeat (show wpQuiet _ _ _ _ (_ :: _) _; go_big_quiet_step (fail))); refine qn ?_)
                go_wp2_with fail
                have hb9 := hb8.al (.cells #[.int .i64 0, .int .i64 0, .int .i64 0, .int .i64 0] 40)
                have hz8 := hb8.size
                (dsimp only [wpList, SegQ]; refine ⟨fun w' => ∃ d : Wd (On wr), w' = d.w, ClsW.mk (hb9), fun _ h => h, ?_⟩; unfold wpMix; simp only [pick, p1, p2, p3, p4]; (repeat (show wpQuiet _ _ _ _ (_ :: _) _; go_big_quiet_step (fail))); refine qn ?_)
                refine wpList_store_new (cs := f.range.cells.toArray) rfl rfl rfl rfl rfl (by kernel_rfl) rfl (by simp [Range.cells, Value.oneCell']) ?_
                have hb10 := hb8.al (.cells f.range.cells.toArray 40)
                (dsimp only [wpList, SegQ]; refine ⟨fun w' => ∃ d : Wd (On wr), w' = d.w, ClsW.mk (hb10), fun _ h => h, ?_⟩; unfold wpMix; simp only [pick, p1, p2, p3, p4]; (repeat (show wpQuiet _ _ _ _ (_ :: _) _; go_big_quiet_step (fail))); refine qn ?_)
                have HZ := Lib.hid (And.intro (Blk.new w8 40 f.range.cells) (And.intro hb10 hz8))
                go_wp2_with fail
                go_meet
                exact ⟨_, rfl, rfl, HZ.out.1, HZ.out.2.1, HZ.out.2.2⟩
              · go_wp2_with fail
                have hz7 := hb7.size
                have hb8 := hb7.al (.cells #[.int .i64 0, .int .i64 0, .int .i64 0, .int .i64 0] 40)
                (dsimp only [wpList, SegQ]; refine ⟨fun w' => ∃ d : Wd (On wr), w' = d.w, ClsW.mk (hb8), fun _ h => h, ?_⟩; unfold wpMix; simp only [pick, p1, p2, p3, p4]; (repeat (show wpQuiet _ _ _ _ (_ :: _) _; go_big_quiet_step (fail))); refine qn ?_)
                go_wp2_with fail
                refine (CFx A7 c7 _ (HO7.out.ext ((Below.refl _ _).al _))).mono ?_
                rintro e w8 ⟨rfl, hb8'⟩
                have BK := (Blk.new w7 40 [.int .i64 0, .int .i64 0, .int .i64 0, .int .i64 0]).ext hb8'
                have hb9 : Below wr.heap.size wr w8 := hb8.tr hb8'
                clear hb8'
                go_wp2_with fail
                (dsimp only [wpList, SegQ]; refine ⟨fun w' => ∃ d : Wd (On wr), w' = d.w, ClsW.mk (hb9), fun _ h => h, ?_⟩; unfold wpMix; simp only [pick, p1, p2, p3, p4]; (repeat (show wpQuiet _ _ _ _ (_ :: _) _; go_big_quiet_step (fail))); refine qn ?_)
                refine wpList_store_blk (cs := f.range.cells) rfl rfl rfl rfl rfl BK (by kernel_rfl) rfl (by simp [Range.cells, Value.oneCell']) ?_
                intro w10 hB10 hO10 hz10
                have hb11 := hb9.trans (hO10.low (fun k e => by have e' : k = w7.heap.size := e; omega) hb9.size)
                (dsimp only [wpList, SegQ]; refine ⟨fun w' => ∃ d : Wd (On wr), w' = d.w, ClsW.mk (hb11), fun _ h => h, ?_⟩; unfold wpMix; simp only [pick, p1, p2, p3, p4]; (repeat (show wpQuiet _ _ _ _ (_ :: _) _; go_big_quiet_step (fail))); refine qn ?_)
                have HZ := Lib.hid (And.intro hB10 (And.intro hb11 hz7))
                go_wp2_with fail
                go_meet
                exact ⟨_, rfl, rfl, HZ.out.1, HZ.out.2.1, HZ.out.2.2⟩
            · go_wp2_with fail
              have hb7 := ((Below.refl wr.heap.size wr).al (.cells #[.int .i64 0, .int .i64 0, .int .i64 0, .int .i64 0] 40)).drew
              (dsimp only [wpList, SegQ]; refine ⟨fun w' => ∃ d : Wd (On wr), w' = d.w, ClsW.mk (hb7), fun _ h => h, ?_⟩; unfold wpMix; simp only [pick, p1, p2, p3, p4]; (repeat (show wpQuiet _ _ _ _ (_ :: _) _; go_big_quiet_step (fail))); refine qn ?_)
              go_wp2_with fail
              refine (CRx _ hb7).mono ?_
              rintro e w7 ⟨⟨v7, rfl, ho7⟩, hb7'⟩
              have BK := ((Blk.new wr 40 [.int .i64 0, .int .i64 0, .int .i64 0, .int .i64 0]).ext (Below.refl _ _).drew).ext hb7'
              have hb8 : Below wr.heap.size wr w7 := hb7.tr hb7'
              obtain ⟨A7, c7, rfl, hc71, hc72⟩ := ho7.form
              have HO7 := Lib.hid ((ho7.mono (S' := fun _ => True) fun _ _ _ => trivial).row fun _ _ => trivial)
              clear hb7' ho7
              go_wp2_with fail
              (dsimp only [wpList, SegQ]; refine ⟨fun w' => ∃ d : Wd (On wr), w' = d.w, ClsW.mk (hb8), fun _ h => h, ?_⟩; unfold wpMix; simp only [pick, p1, p2, p3, p4]; (repeat (show wpQuiet _ _ _ _ (_ :: _) _; go_big_quiet_step (fail))); refine qn ?_)
              go_wp2_with fail
              refine (CFx A7 c7 w7 HO7.out).mono ?_
              rintro e w8 ⟨rfl, hb8'⟩
              have BK := BK.ext hb8'
              have hb9 : Below wr.heap.size wr w8 := hb8.tr hb8'
              clear hb8'
              go_wp2_with fail
              (dsimp only [wpList, SegQ]; refine ⟨fun w' => ∃ d : Wd (On wr), w' = d.w, ClsW.mk (hb9), fun _ h => h, ?_⟩; unfold wpMix; simp only [pick, p1, p2, p3, p4]; (repeat (show wpQuiet _ _ _ _ (_ :: _) _; go_big_quiet_step (fail))); refine qn ?_)
              refine wpList_store_blk (cs := f.range.cells) rfl rfl rfl rfl rfl BK (by kernel_rfl) rfl (by simp [Range.cells, Value.oneCell']) ?_
              intro w10 hB10 hO10 hz10
              have hb11 := hb9.trans (hO10.low (fun k e => by have e' : k = wr.heap.size := e; omega) hb9.size)
              (dsimp only [wpList, SegQ]; refine ⟨fun w' => ∃ d : Wd (On wr), w' = d.w, ClsW.mk (hb11), fun _ h => h, ?_⟩; unfold wpMix; simp only [pick, p1, p2, p3, p4]; (repeat (show wpQuiet _ _ _ _ (_ :: _) _; go_big_quiet_step (fail))); refine qn ?_)
              have HZ := Lib.hid (And.intro hB10 hb11)
              go_wp2_with fail
              go_meet
              exact ⟨_, rfl, rfl, HZ.out.1, HZ.out.2, Nat.le_refl _⟩
          case rest =>
            clear z13 CRx CFx
            obtain ⟨xb, rfl, rfl, hX, hbc, hxb⟩ := hcut
            have ho : f.range.owner = self := by rw [HFD.out.2.1, H2.out.2, HS.out.2.2.1]
            have hto : (f.to == self) = false := beq_eq_false_iff_ne.2 fun e => HFD.out.2.2 (by rw [e, H2.out.2, HS.out.2.2.1])
            have y0 : wc.cell? ⟨xb, 0, none⟩ = some (.int .i64 f.range.first) := hX.cell 0
            have y1 : wc.cell? ⟨xb, 1, none⟩ = some (.int .i64 f.range.last) := hX.cell 1
            have y2 : wc.cell? ⟨xb, 2, none⟩ = some (.int .i64 f.range.owner) := hX.cell 2
            have y3 : wc.cell? ⟨xb, 3, none⟩ = some (.int .i64 f.range.epoch) := hX.cell 3
            have b2' : wc.cell? ⟨b2, o2 + k * 18 + 2, none⟩ = some (.int .i64 f.to) := (Below.cell hbc (p := ⟨b2, o2 + k * 18 + 2, none⟩) hbw2).trans (HC2.out 2 _ rfl)
            have b13 : wc.cell? ⟨b2, o2 + k * 18 + 13, none⟩ = some (.int .i64 f.range.first) := (Below.cell hbc (p := ⟨b2, o2 + k * 18 + 13, none⟩) hbw2).trans (HC2.out 13 _ rfl)
            have b14 : wc.cell? ⟨b2, o2 + k * 18 + 13 + 1, none⟩ = some (.int .i64 f.range.last) := (Below.cell hbc (p := ⟨b2, o2 + k * 18 + 14, none⟩) hbw2).trans (HC2.out 14 _ rfl)
            have b15 : wc.cell? ⟨b2, o2 + k * 18 + 13 + 2, none⟩ = some (.int .i64 f.range.owner) := (Below.cell hbc (p := ⟨b2, o2 + k * 18 + 15, none⟩) hbw2).trans (HC2.out 15 _ rfl)
            have b16 : wc.cell? ⟨b2, o2 + k * 18 + 13 + 3, none⟩ = some (.int .i64 f.range.epoch) := (Below.cell hbc (p := ⟨b2, o2 + k * 18 + 16, none⟩) hbw2).trans (HC2.out 16 _ rfl)
            rw [ho] at y2 b15
            have HW := Lib.hid (HX.out.1.tr hbc)
            clear ho hX hbc
            go_wp2_with fail
            go_quiet (fail)
            go_wp2_with fail
            go_round
            case rel => exact ⟨k + 1, by omega, by go_num, HW.out.drewN _⟩
            case measure => simp [intOf]; omega
        · have hkk : k = s2.frozen.length := by omega
          subst hkk
          have HQ := Lib.hid (And.intro hbx (H6.out.2.tr hbx))
          clear hbx
          go_wp2_with fail
          go_round
          case rel =>
            obtain ⟨v', a1, a2⟩ := H3.out.1
            exact ⟨i + 1, s2, by omega, by go_num, ⟨v', a1.ext HQ.out.2, a2.same (Same.of_below HQ.out.2)⟩, by rw [HC.out.1]; exact H2.out.1, by rw [H2.out.2]; exact HS.out.2.2.1, HS.out.2.2.2.1.tr (H3.out.2.tr (Only.of_below HQ.out.2))⟩
          case measure => simp [intOf]; omega
    · have HQ := Lib.hid HS.out.2.2.2.2.below
      clear HS
      go_wp2_with fail
      refine (CA.out wr HQ.out).mono ?_
      rintro e w2 ⟨rfl, hb2⟩
      go_wp2_with fail
      go_ret
      exact ⟨rfl, HQ.out.tr hb2⟩
end Go.Proofs.YtpgocpodhamibaaGreatDoor
namespace Go.Proofs.YtpgocpodhamibaaGreatDoor
set_option maxRecDepth 100000
open Go.RowKit Go.ChangeShapes Go.WideShapes Go.Deep

def Opens {α : Type} (R : Rep α) (t : TypeId) : Prop := Tryz.prog.cellsOf t = R.size ∧ ∀ (H : Type) (enc : TypeId × Value → H) (w : World) (base : Nat) (sp : Nat → Bool) (held : Bool) (fuel : Nat) (cs : List Value) (x : DataW H × List MemPlace),
  DataW.trod enc Tryz.prog w base sp held fuel t cs = some x → ∃ a, R.rep w (fun g => g < w.heap.size) cs a
def Parts {H : Type} (enc : TypeId × Value → H) (w : World) (base : Nat) (sp : Nat → Bool) (held : Bool) (fuel : Nat) : List TypeId → List Value → Prop
  | [], cs => cs = []
  | t :: ts, cs => (∃ y, DataW.trod enc Tryz.prog w base sp held fuel t (cs.take (Tryz.prog.cellsOf t)) = some y) ∧ Parts enc w base sp held fuel ts (cs.drop (Tryz.prog.cellsOf t))
def OpensF {α : Type} (R : Rep α) (ts : List TypeId) : Prop := ∀ (H : Type) (enc : TypeId × Value → H) (w : World) (base : Nat) (sp : Nat → Bool) (held : Bool) (fuel : Nat) (cs : List Value), Parts enc w base sp held fuel ts cs → ∃ a, R.rep w (fun g => g < w.heap.size) cs a
def offB (P : Program) (n : Nat) : List Field → Nat → Bool
  | [], off => decide (off = n)
  | f :: r, off => decide (f.offset = off) && offB P n r (off + P.cellsOf f.type)

section
variable {α β : Type} {R : Rep α} {S : Rep β}
theorem parts_of {H : Type} {enc : TypeId × Value → H} {w : World} {base : Nat} {sp : Nat → Bool} {held : Bool} {fuel : Nat} {cs : List Value} : ∀ (fs : List Field) (off : Nat), (∀ f ∈ fs, ∃ y, DataW.trod enc Tryz.prog w base sp held fuel f.type ((cs.drop f.offset).take (Tryz.prog.cellsOf f.type)) = some y) → offB Tryz.prog cs.length fs off = true →
    Parts enc w base sp held fuel (fs.map (·.type)) (cs.drop off)
  | [], off, _, ho => by
    simp only [offB, decide_eq_true_eq] at ho
    subst ho
    simp [Parts]
  | f :: r, off, h, ho => by
    simp only [offB, Bool.and_eq_true, decide_eq_true_eq] at ho
    obtain ⟨rfl, ho⟩ := ho
    refine ⟨h f (by simp), ?_⟩
    have := parts_of r _ (fun g hg => h g (by simp [hg])) ho
    rwa [List.drop_drop]
theorem Opens.one {t : TypeId} (h : Opens R t) : OpensF R [t] := fun H enc w base sp held fuel cs hp => by
  obtain ⟨⟨y, hy⟩, hd⟩ := hp
  obtain ⟨a, ha⟩ := h.2 _ _ _ _ _ _ _ _ _ hy
  simp only [Parts] at hd
  rw [List.take_of_length_le (by simpa using hd)] at ha
  exact ⟨a, ha⟩
theorem Opens.more {t : TypeId} {ts : List TypeId} (h : Opens R t) (k : OpensF S ts) : OpensF (R.cat S) (t :: ts) := fun H enc w base sp held fuel cs hp => by
  obtain ⟨⟨y, hy⟩, hd⟩ := hp
  obtain ⟨a, ha⟩ := h.2 _ _ _ _ _ _ _ _ _ hy
  obtain ⟨b, hb⟩ := k _ _ _ _ _ _ _ _ hd
  exact ⟨(a, b), _, _, (List.take_append_drop _ _).symm, ha, hb⟩
theorem OpensF.struct {fs : Array Field} {t : TypeId} (ht : Tryz.prog.underlying t = some (.struct fs)) (hc : Tryz.prog.cellsOf t = R.size) (ho : offB Tryz.prog (Tryz.prog.cellsOf t) fs.toList 0 = true) (h : OpensF R (fs.toList.map (·.type))) : Opens R t := ⟨hc, fun H enc w base sp held fuel cs x hx => by
  obtain ⟨xs, n, _, _, hl, hxl, hf⟩ := DataW.trod_struct ht hx
  have := parts_of (enc := enc) (w := w) (base := base) (sp := sp) (held := held) (fuel := n) (cs := cs) fs.toList 0 (fun f hfm => by
    obtain ⟨i, hi, rfl⟩ := List.getElem_of_mem hfm
    have h1 := hf i fs.toList[i] (by simp at hi; simp [hi])
    rw [h1]
    have : i < xs.length := by rw [hxl]; simpa using hi
    exact ⟨xs[i], List.getElem?_eq_getElem this⟩) (by rw [hl]; exact ho)
  exact h _ _ _ _ _ _ _ _ (by simpa using this)⟩
theorem Opens.via {t : TypeId} {f : β → α} (g : α → β) (hg : ∀ a, f (g a) = a) (h : Opens R t) : Opens (R.via f) t := ⟨h.1, fun H enc w base sp held fuel cs x hx => by
  obtain ⟨a, ha⟩ := h.2 _ _ _ _ _ _ _ _ _ hx
  refine ⟨g a, ?_⟩
  show R.rep _ _ _ (f (g a))
  rw [hg]; exact ha⟩
theorem Opens.sl {t e : TypeId} (ht : Tryz.prog.underlying t = some (.slice e)) (hc : Tryz.prog.cellsOf t = 1) (h : Opens R e) : Opens R.sl t := ⟨hc, fun H enc w base sp held fuel cs x hx => by
  rcases open_slice ht hx with ⟨h0, _⟩ | ⟨a, len, cap, m, n, D, Pl, hcs, hb, hl, hcap, hmm, _, hi⟩
  · exact ⟨[], none, 0, h0, Nat.le_refl _, by simp, Rep.Row.nil_⟩
  · have hlm : len ≤ m := by rw [hmm]; split <;> omega
    rw [h.1] at hi
    have hcap' : cap ≤ 9223372036854775807 := by unfold maxLen at hcap; omega
    by_cases hz : len = 0
    · exact ⟨[], some a, cap, by rw [hcs, hz]; rfl, Nat.zero_le _, hcap', Rep.Row.nil_⟩
    have key : ∀ i, i < len → ∃ cs' y, R.rep w (fun g => g < w.heap.size) cs' y ∧ ∀ j u, cs'[j]? = some u → w.cell? (a.add (i * R.size + j)) = some u := fun i hil => by
      obtain ⟨cs', h1, h2⟩ := hi i (by omega)
      obtain ⟨y, hy⟩ := h.2 _ _ _ _ _ _ _ _ _ h2
      obtain ⟨_, _, hat⟩ := World.cells?_some h1
      refine ⟨cs', y, hy, fun j u hu => ?_⟩
      have hj : j < R.size := by have := (List.getElem?_eq_some_iff.1 hu).1; rwa [R.len hy] at this
      have := hat j hj
      rw [add_of_add] at this
      exact this.trans hu
    have first : ∃ u, w.cell? a = some u := by
      obtain ⟨cs', y, hy, hat⟩ := key 0 (by omega)
      have hp := R.pos
      have hl : 0 < cs'.length := by rw [R.len hy]; exact hp
      have := hat 0 cs'[0] (List.getElem?_eq_getElem hl)
      exact ⟨cs'[0], by simpa [Addr.add] using this⟩
    obtain ⟨u0, hu0⟩ := first
    have hbl := lt_of_cell hu0
    obtain ⟨b, o, q⟩ := a
    have hq : q = none := by
      cases q with
      | none => rfl
      | some q =>
        simp only [World.cell?] at hu0
        split at hu0 <;> cases hu0
    subst hq
    have list : ∀ k, k ≤ len → ∃ l : List α, l.length = k ∧ ∀ i y, l[i]? = some y → ∃ cs', R.rep w (fun g => g < w.heap.size) cs' y ∧ ∀ j u, cs'[j]? = some u → w.cell? ⟨b, o + i * R.size + j, none⟩ = some u := by
      intro k
      induction k with
      | zero => intro _; exact ⟨[], rfl, by simp⟩
      | succ k ih =>
        intro hk
        obtain ⟨l, hn, hl'⟩ := ih (by omega)
        obtain ⟨cs', y, hy, hat⟩ := key k (by omega)
        refine ⟨l ++ [y], by simp [hn], fun i y' hi' => ?_⟩
        by_cases hik : i < k
        · rw [List.getElem?_append_left (by omega)] at hi'
          exact hl' i y' hi'
        · rw [List.getElem?_append_right (by omega), hn] at hi'
          have : i = k := by
            have := (List.getElem?_eq_some_iff.1 hi').1
            simp at this; omega
          subst this
          simp at hi'
          subst hi'
          refine ⟨cs', hy, fun j u hu => ?_⟩
          have := hat j u hu
          rwa [add_off, ← Nat.add_assoc] at this
    obtain ⟨l, hn, hl'⟩ := list len (Nat.le_refl _)
    subst hn
    exact ⟨l, _, cap, hcs, hl, hcap', fun _ => ⟨b, o, rfl, hbl, hbl, hl'⟩⟩⟩
theorem opens_int : Opens IntR 3 := ⟨by kernel_rfl, fun H enc w base sp held fuel cs x hx => by
  obtain ⟨n, rfl, _, h⟩ := DataW.trod_int Tryz.underlying3 hx
  exact ⟨n, rfl, by have := h; simp only [Lit.wf, Bool.and_eq_true, decide_eq_true_eq, show IntKind.i64.min = -9223372036854775808 from by decide, show IntKind.i64.max = 9223372036854775807 from by decide] at this; omega⟩⟩
theorem opens_string : Opens StrR 9 := ⟨by kernel_rfl, fun H enc w base sp held fuel cs x hx => by
  obtain ⟨s, rfl, _, h⟩ := DataW.trod_string Tryz.underlying9 hx
  exact ⟨s, rfl, by unfold maxLen at h; omega⟩⟩
theorem opens_bool : Opens BoolR 4 := ⟨by kernel_rfl, fun H enc w base sp held fuel cs x hx => by
  obtain ⟨b, rfl, _⟩ := DataW.trod_bool Tryz.underlying4 hx
  exact ⟨b, rfl⟩⟩
end
theorem opens_strings : Opens StrR.sl 27 := opens_string.sl Tryz.underlying27 (by kernel_rfl)
theorem opens_ints : Opens IntR.sl 38 := opens_int.sl Tryz.underlying38 (by kernel_rfl)
theorem opens_stamp : Opens StampR 37 := Opens.via (fun s => ⟨s.1, s.2.1, s.2.2⟩) (fun _ => rfl) (OpensF.struct Tryz.underlying37 (by kernel_rfl) (by kernel_rfl) (opens_int.more (opens_int.more opens_int.one)))
theorem opens_tx : Opens TxR 34 := Opens.via (fun s => ⟨s.1, s.2.1, s.2.2⟩) (fun _ => rfl) (OpensF.struct Tryz.underlying34 (by kernel_rfl) (by kernel_rfl) (opens_int.more (opens_int.more opens_int.one)))
theorem opens_range : Opens RangeR 40 := Opens.via (fun s => ⟨s.1, s.2.1, s.2.2.1, s.2.2.2⟩) (fun _ => rfl) (OpensF.struct Tryz.underlying40 (by kernel_rfl) (by kernel_rfl) (opens_int.more (opens_int.more (opens_int.more opens_int.one))))
theorem opens_put : Opens PutR 29 := Opens.via (fun s => ⟨s.1, s.2.1, s.2.2⟩) (fun _ => rfl) (OpensF.struct Tryz.underlying29 (by kernel_rfl) (by kernel_rfl) (opens_string.more (opens_int.more opens_strings.one)))
theorem opens_puts : Opens PutR.sl 30 := opens_put.sl Tryz.underlying30 (by kernel_rfl)
theorem opens_batch : Opens BatchR 32 := Opens.via (fun s => ⟨s.1, s.2⟩) (fun _ => rfl) (OpensF.struct Tryz.underlying32 (by kernel_rfl) (by kernel_rfl) (opens_string.more opens_puts.one))
theorem opens_event : Opens EventR 63 := Opens.via (fun s => ⟨s.1, s.2.1, s.2.2.1, s.2.2.2.1, s.2.2.2.2⟩) (fun _ => rfl) (OpensF.struct Tryz.underlying63 (by kernel_rfl) (by kernel_rfl) (opens_string.more (opens_int.more (opens_string.more (opens_stamp.more opens_int.one)))))
theorem opens_events : Opens EventR.sl 45 := opens_event.sl Tryz.underlying45 (by kernel_rfl)
theorem opens_known : Opens KnownR 70 := Opens.via (fun s => ⟨s.1, s.2.1, s.2.2⟩) (fun _ => rfl) (OpensF.struct Tryz.underlying70 (by kernel_rfl) (by kernel_rfl) (opens_string.more (opens_int.more opens_stamp.one)))
theorem opens_knowns : Opens KnownR.sl 59 := opens_known.sl Tryz.underlying59 (by kernel_rfl)
theorem opens_stream : Opens StreamR 61 := Opens.via (fun s => ⟨s.1, s.2.1, s.2.2⟩) (fun _ => rfl) (OpensF.struct Tryz.underlying61 (by kernel_rfl) (by kernel_rfl) (opens_string.more (opens_events.more opens_knowns.one)))
theorem opens_streams : Opens StreamR.sl 41 := opens_stream.sl Tryz.underlying41 (by kernel_rfl)
theorem opens_rec : Opens RecR 43 := Opens.via (fun s => ⟨s.1, s.2.1, s.2.2.1, s.2.2.2.1, s.2.2.2.2.1, s.2.2.2.2.2.1, s.2.2.2.2.2.2.1, s.2.2.2.2.2.2.2.1, s.2.2.2.2.2.2.2.2.1, s.2.2.2.2.2.2.2.2.2⟩) (fun _ => rfl)
  (OpensF.struct Tryz.underlying43 (by kernel_rfl) (by kernel_rfl) (opens_int.more (opens_int.more (opens_int.more (opens_bool.more (opens_stamp.more (opens_tx.more (opens_ints.more (opens_batch.more (opens_range.more opens_streams.one))))))))))
theorem opens_recs : Opens RecR.sl 48 := opens_rec.sl Tryz.underlying48 (by kernel_rfl)
end Go.Proofs.YtpgocpodhamibaaGreatDoor
