/- state.Held of any state: what is held, in some order. Stamps in their order: the greatest and the least of some. hand.tried: what a state would say to a record. state.State.Take: the row lies in new memory. hand.Weight: how much a range has. hand.Freeze: a range is to go. state.State.Frozen. -/
import Derived.Test.YtcmjgghkmdbphaaGreatDoorG21
import Derived.Test.YtcmjgghkmdbphaaGreatDoorG16
import Derived.Test.YtcmjgghkmdbphaaGreatDoorG15
import Derived.Test.YtcmjgghkmdbphaaGreatDoorG01
import Derived.StillTailTactics
import Derived.Laws.ResultCell
import Derived.Test.YtcmjgghkmdbphaaGreatDoorG07
import Derived.Laws.StructEq
import Derived.Test.YtcmjgghkmdbphaaGreatDoorG17
import Derived.Test.YtcmjgghkmdbphaaGreatDoorG19
import Derived.Test.YtcmjgghkmdbphaaGreatDoorG20
import Derived.Test.YtcmjgghkmdbphaaGreatDoorG04
import Derived.Test.YtcmjgghkmdbphaaGreatDoorG02
set_option maxRecDepth 20000
set_option maxHeartbeats 25600000
namespace Go.Proofs.YtcmjgghkmdbphaaGreatDoor
open Go.RowKit Go.Shelf Go.Sort
theorem OnlyD.cell {F : Nat → Prop} {wx : World} {p : Addr} {u : Value} (h : wx.cell? p = some u) (hF : ¬ F p.block) : ∀ d : Wd (Only F wx), d.w.cell? p = some u := fun d =>
 (World.cell?_of_block (w := wx) (d.ok.block p.block (lt_of_cell h) hF)).trans h
theorem txs_at {w : World} {B e : Nat} {v : Value} {ts : List Tx} (h : w.ownsRow B e 3 v ts.length (ts.flatMap Tx.cells)) {k : Nat} {t : Tx} (hk : ts[k]? = some t) :
 ∃ g c, v = .slice (some ⟨g, 0, none⟩) ts.length c ∧ B ≤ g ∧ g < w.heap.size ∧ w.cell? ⟨g, k * 3, none⟩ = some (.int .i64 t.node) ∧ w.cell? ⟨g, k * 3 + 1, none⟩ = some (.int .i64 t.life) ∧ w.cell? ⟨g, k * 3 + 2, none⟩ = some (.int .i64 t.num) := by
 have hkl := (List.getElem?_eq_some_iff.1 hk).1
 have hk2 := (List.getElem?_eq_some_iff.1 hk).2
 rcases h.2 with ⟨_, h0⟩ | ⟨g, cap, cur, rfl, hB, hg, hn, hc, hs, ht⟩
 ·omega
 ·have hgl := (Array.getElem?_eq_some_iff.1 hg).1
  have key : ∀ j, j < 3 → w.cell? ⟨g, k * 3 + j, none⟩ = t.cells[j]? := fun j hj => by
   have h1 : k * 3 + j < ts.length * 3 := by omega
   have h2 := flat_get ts (k * 3 + j) h1
   rw [show (k * 3 + j) / 3 = k by omega, show (k * 3 + j) % 3 = j by omega, getElem!_pos _ k hkl, hk2] at h2
   have h3 : (ts.flatMap Tx.cells)[k * 3 + j]? = cur[k * 3 + j]? := by
    rw [← ht, List.getElem?_take_of_lt (by first | exact h1 | (rw [flat_len]; exact h1)), Array.getElem?_toList]
   unfold World.cell?
   simp only [hg]
   rw [← h3, h2]
   match j, hj with
   | 0, _ => rfl
   | 1, _ => rfl
   | 2, _ => rfl
  exact ⟨g, cap, rfl, hB, hgl, key 0 (by decide), key 1 (by decide), key 2 (by decide)⟩
theorem held_info : (Tryz.prog.info? 192).map (fun i => (i.zero, i.size, i.bytes)) = some (some (.agg Held.zeros.toArray), 9, 112) := by kernel_rfl
def dftHeld : Held := ⟨⟨0, 0, 0⟩, ⟨⟨#[]⟩, []⟩, ⟨0, 0, 0⟩, []⟩
def heldsOf (s : St) (ts : List Tx) : List Held := ts.map fun t => (getA t s.held).getD dftHeld
theorem heldsOf_perm {s : St} (hn : (s.held.map (·.1)).Nodup) {ts : List Tx} (hp : ts.Perm (s.held.map (·.1))) : (heldsOf s ts).Perm (s.held.map (·.2)) := by
 refine (hp.map _).trans ?_
 rw [List.map_map]
 refine List.Perm.of_eq (List.map_congr_left fun p hp => ?_)
 show (getA p.1 s.held).getD dftHeld = p.2
 rw [getA_of_mem hn hp]; rfl
def GotHelds (s : St) (B : Nat) (e : Ending) (w' : World) : Prop := ∃ v hs, e = .returned v ∧ hs.Perm (s.held.map (·.2)) ∧ HeldR.Own w' B 192 (fun k => B ≤ k) v hs
theorem sheld_any (g : Nat) (s : St) (P : Nat → Prop) (w : World) (h : StAt w P g s) (hs : s.self ≠ 0) (hf : ∀ x ∈ s.held, HeldFit x.2) (hl : s.held.length ≤ 1000000) :
 Calls Tryz.prog 41 #[ptrV g] w fun e w' => GotHelds s w.heap.size e w' ∧ Below w.heap.size w w' := by
 by_cases h0 : s.held = []
 ·refine (heldNo_any g s P w h hs h0).mono ?_
  rintro e w' ⟨rfl, hb⟩
  exact ⟨⟨_, [], rfl, by rw [h0]; exact .nil, Rep.Own.nil_⟩, hb⟩
 obtain ⟨v, hB, hI⟩ := h
 have hnd := hI.held.1
 obtain ⟨LA, hMV, hLr, hll⟩ := hI.held.mapV
 have C1 := gone_any g s.self w (hB.cell 0) hs
 have b6 : w.cell? ⟨g, 6, none⟩ = some v.held := hB.cell 6
 have hLA : LA ≠ [] := fun e => h0 (by rw [hll, e]; rfl)
 obtain ⟨m, hv, hM⟩ : ∃ m, v.held = .map (some m) ∧ MapAt txE w m (LA.map fun p => (p.1, aggV p.2.2)) := by
  rcases hMV with ⟨_, e⟩ | h
  ·exact absurd (List.map_eq_nil_iff.1 e) hLA
  ·exact h
 rw [hv] at b6
 have C2 := keysH_any (some m) w
 have hb1 := (jb w.heap.size w).al (.cells #[.map (some m)] 172)
 have C3 := sortedH_any w.heap.size m _ (w.alloc (.cells #[.map (some m)] 172)) (by simp) ((Blk.new w 172 [.map (some m)]).cell 0) (hM.ext hb1) (by rw [List.length_map]; have := congrArg List.length hll; rw [List.length_map] at this; omega) (fun e => hLA (List.map_eq_nil_iff.1 e))
 have HV := jh (ja hB (ja hMV (ja hLr (ja hll (ja hnd (ja hf (ja hl (ja hb1 hv))))))))
 clear hB hI hMV hLr hll hnd hf hM hb1 h0 hLA hl hv
 unfold GotTxs at C3
 unfold ptrV at C1 ⊢
 go_enter Tryz.func41, Tryz.ntmps41
 go_wp2_with fail
 refine C1.mono ?_
 clear C1
 rintro e w' ⟨rfl, rfl⟩
 go_wp2_with fail
 refine C2.mono ?_
 clear C2 b6
 rintro e w1 ⟨rfl, rfl⟩
 go_wp2_with fail
 refine C3.mono ?_
 clear C3
 rintro e w2 ⟨⟨vt, ts, rfl, hpt, hrow⟩, hb2⟩
 have hpt : ts.Perm (s.held.map (·.1)) := hpt.trans (.of_eq (by rw [HV.out.2.2.2.1, List.map_map, List.map_map]; rfl))
 have htl : ts.length ≤ 1000000 := by have := hpt.length_eq; rw [List.length_map] at this; have := HV.out.2.2.2.2.2.2.1; omega
 have hz1 : (w.alloc (.cells #[.map (some m)] 172)).heap.size = w.heap.size + 1 := by simp
 have hw2 := HV.out.2.2.2.2.2.2.2.1.tr hb2
 obtain ⟨At, ct, rfl⟩ := own_form hrow
 have H2 := jh (ja hpt (ja hrow hw2))
 clear hpt hrow hw2 hb2
 go_wp2_with fail
 go_loopw [2, 14] (fun ov iv wr => ∃ k : Nat, k ≤ ts.length ∧ iv = .int .i64 k ∧ HeldR.Own wr w.heap.size 192 (fun q => w.heap.size ≤ q) ov (heldsOf s (ts.take k)) ∧ Below w2.heap.size w2 wr ∧ (∀ q, ov.ownBlock = some q → w2.heap.size ≤ q)) (fun _ iv _ => ts.length - (intOf iv).toNat)
 case atStart => exact ⟨0, Nat.zero_le _, rfl, by rw [List.take_zero]; exact Rep.Own.nil_, jb _ _, fun q e => by cases e⟩
 case round =>
  obtain ⟨k, hk, rfl, hown, hbl, hoff⟩ := hrel
  obtain ⟨Ao, co, rfl, _⟩ := hown.form
  by_cases hlt : k < ts.length
  ·have hlt' : (k : Int) < ts.length := by omega
   have hlk := jg hlt
   have hts : heldsOf s (ts.take (k + 1)) = heldsOf s (ts.take k) ++ [(getA ts[k] s.held).getD dftHeld] := by
    unfold heldsOf; rw [take_snoc ts k hlt, List.map_append]; rfl
   have hmem : ts[k] ∈ s.held.map (·.1) := H2.out.1.subset (List.getElem_mem hlt)
   obtain ⟨gt, cc, hvt, _, hgt, e0, e1, e2⟩ := txs_at (H2.out.2.1.ext_ hbl) hlk
   generalize ts[k] = t at *
   injection hvt with hA _ hcc
   subst hA hcc
   have hMVr : MapV wr v.held (LA.map fun p => (p.1, aggV p.2.2)) := HV.out.2.1.ext (H2.out.2.2.tr hbl)
   rcases held_of (fun p hp => HeldR.same (HV.out.2.2.1 p hp) (js (H2.out.2.2.tr hbl))) t with ⟨hg0, _⟩ | ⟨h, pA, pc, fA, fc, hgs, hq, k1, k2, k3, k4, k5⟩
   ·exfalso
    rw [← HV.out.2.2.2.1] at hg0
    exact (getA_none.1 hg0) hmem
   rw [← HV.out.2.2.2.1] at hgs
   rw [hgs, Option.getD_some] at hts
   have hfit : HeldFit h := HV.out.2.2.2.2.2.1 _ (getA_mem hgs)
   have hol : (heldsOf s (ts.take k)).length ≤ 1000000 := by unfold heldsOf; rw [List.length_map, List.length_take]; omega
   have y6 : wr.cell? ⟨g, 6, none⟩ = some v.held := (HV.out.1.ext (H2.out.2.2.tr hbl)).cell 6
   rw [HV.out.2.2.2.2.2.2.2.2] at y6
   have HO := jh (ja hown (ja hbl (ja hoff (ja hts (ja k1 (ja k2 (ja k3 (ja k4 (ja k5 hfit)))))))))
   have hMVr : MapV wr (.map (some m)) (LA.map fun p => (p.1, aggV p.2.2)) := by rw [← HV.out.2.2.2.2.2.2.2.2]; exact hMVr
   have HMX := jh hMVr
   clear hmem hlk hown hbl hoff hts k1 k2 k3 k4 k5 hfit hgs hMVr
   go_upto_region 6 with fail
   have hbx := (jb wr.heap.size wr).al (.cells #[.int .i64 t.node, .int .i64 t.life, .int .i64 t.num] 42)
   have BX := Blk.new wr 42 [.int .i64 t.node, .int .i64 t.life, .int .i64 t.num]
   have hzx : (wr.alloc (.cells #[.int .i64 t.node, .int .i64 t.life, .int .i64 t.num] 42)).heap.size = wr.heap.size + 1 := by simp
   have z6 : (wr.alloc (.cells #[.int .i64 t.node, .int .i64 t.life, .int .i64 t.num] 42)).cell? ⟨g, 6, none⟩ = some (.map (some m)) := by
    have := (HV.out.1.ext ((H2.out.2.2.tr HO.out.2.1).tr hbx)).cell 6
    rw [this, ← HV.out.2.2.2.2.2.2.2.2]; rfl
   generalize (wr.alloc (.cells #[.int .i64 t.node, .int .i64 t.life, .int .i64 t.num] 42)) = wx at *
   have hzr := HO.out.2.1.size
   have hz2 := H2.out.2.2.size
   have hgl := HV.out.1.lt
   have hml : m < w.heap.size := by
    rcases HV.out.2.1 with ⟨e, _⟩ | ⟨m', e, hM⟩
    ·rw [HV.out.2.2.2.2.2.2.2.2] at e; cases e
    ·rw [HV.out.2.2.2.2.2.2.2.2] at e
     injection e with e
     injection e with e
     rw [e]; exact hM.lt
   obtain ⟨F, hF⟩ : ∃ F : Nat → Prop, F = fun q => w2.heap.size ≤ q ∧ q ≠ wr.heap.size := ⟨_, rfl⟩
   have HF := jh hF
   have nF1 : ∀ q, q < w2.heap.size → ¬ F q := fun q h1 h2 => by rw [hF] at h2; have := h2.1; omega
   have nF2 : ¬ F wr.heap.size := fun h2 => by rw [hF] at h2; exact h2.2 rfl
   have z6 := OnlyD.cell (F := F) z6 (nF1 _ (by show g < _; omega))
   have x0 := OnlyD.cell (F := F) (BX.cell 0 : wx.cell? ⟨wr.heap.size, 0, none⟩ = some (.int .i64 t.node)) nF2
   have x1 := OnlyD.cell (F := F) (BX.cell 1 : wx.cell? ⟨wr.heap.size, 1, none⟩ = some (.int .i64 t.life)) nF2
   have x2 := OnlyD.cell (F := F) (BX.cell 2 : wx.cell? ⟨wr.heap.size, 2, none⟩ = some (.int .i64 t.num)) nF2
   have hMx := HMX.out.ext hbx
   clear hF
   have HMV := jh (fun (W : World) (hW : ∃ d : Wd (Only F wx), W = d.w) => (show MapV W (.map (some m)) (LA.map fun p => (p.1, aggV p.2.2)) from by
    obtain ⟨d, rfl⟩ := hW
    rcases hMx with ⟨e, _⟩ | ⟨m', e, hM⟩
    ·cases e
    ·injection e with e
     injection e with e
     subst e
     exact .inr ⟨_, rfl, hM.only d.ok (nF1 _ (by omega))⟩))
   have hlo : Only F wx wx.drew := Only.drew
   have HBX := jh hbx
   haveI : Nonempty (Wd (Only F wx)) := ⟨⟨wx, Only.refl _ _⟩⟩
   clear hbx BX y6 e0 e1 e2 hMx
   refine wp_region_mix (.seg [0, 1, 2, 3, 4, 5, 6] 7 (.seg [] 8 (.seg [] 9 (.leaf [10])))) (fun w' => ∃ d : Wd (Only F wx), w' = d.w) (by kernel_rfl) (by kernel_rfl) (fun _ _ d _ _ h => by cases d <;> exact h) (ClsW.mk (D := Only F wx) hlo) ?_
   unfold wpMix; simp only [pick, j1, j2, j3, j4]
   (repeat (show wpQuiet _ _ _ _ (_ :: _) _; first | (refine wpQuiet_lookup_v _ rfl (.tmp 22) (.tmp 23) 172 false rfl Tryz.underlying172 rfl HMV.out t rfl hq _ zero_held ?_; simp only [Bool.false_eq_true, if_false, Option.getD_some]; unfold Held.cellsV; go_simp) | go_big_quiet_step (fail))); refine qn ?_
   have CO := own_any h pA fA pc fc P wx.drew (((HO.out.2.2.2.2.2.2.2.1).2.2.same (js (HBX.out.drew)) HBX.out.drew.size)) (((HO.out.2.2.2.2.2.2.2.2.1).2.2.same (js (HBX.out.drew)) HBX.out.drew.size)) (by have := HO.out.2.2.2.2.2.2.2.2.2.few; omega) (fun p hp => by have := (HO.out.2.2.2.2.2.2.2.2.2.data p hp).1; omega) (by have := HO.out.2.2.2.2.2.2.2.2.2.firsts.1; omega)
   unfold GotHeld Held.cellsV at CO
   go_wp2_with fail
   refine CO.mono ?_
   clear CO
   rintro e w7 ⟨⟨qA, qc, uA, uc, rfl, hq7, hu7⟩, hb7'⟩
   have hb7 : Below wx.heap.size wx w7 := (jb wx.heap.size wx).drew.tr hb7'
   have hzd : wx.drew.heap.size = wx.heap.size := rfl
   have hz7 := hb7.size
   have HO7 := jh (HO.out.1.ext (HBX.out.tr hb7))
   have hH7 : HeldR.rep w7 (fun q => wx.heap.size ≤ q) (Held.cellsV h qA qc uA uc) h := held_rep.2 ⟨qA, qc, uA, uc, rfl, HO.out.2.2.2.2.1, HO.out.2.2.2.2.2.1, HO.out.2.2.2.2.2.2.1, hq7, hu7⟩
   have H7 := jh (ja hH7 hb7)
   have hO7 : Only F wx w7 := jo hb7
   have hO8 : Only F wx (w7.alloc (.cells (Held.cellsV h qA qc uA uc).toArray 192)) := jo (hb7.al _)
   unfold Held.cellsV at hO8
   clear hb7' hq7 hu7 hH7 hb7
   go_wp2_with fail
   (refine segw (D := Only F wx) (hO7) ?_; unfold wpMix; simp only [pick, j1, j2, j3, j4]; (repeat (show wpQuiet _ _ _ _ (_ :: _) _; go_big_quiet_step (fail))); refine qn ?_)
   go_wp2_with fail
   (refine segw (D := Only F wx) (hO8) ?_; unfold wpMix; simp only [pick, j1, j2, j3, j4]; (repeat (show wpQuiet _ _ _ _ (_ :: _) _; go_big_quiet_step (fail))); refine qn ?_)
   obtain ⟨i0, r1, r2, r3, r4⟩ := info_parts held_info
   refine wpList_append_new (R := HeldR) (cs := Held.cellsV h qA qc uA uc) w7 rfl (.tmp 18) (.tmp 26) _ rfl w.heap.size 192 i0 _ 112 Tryz.underlying83 r1 r2 r3 r4 rfl _ (heldsOf s (ts.take k)) (fun q => w.heap.size ≤ q) rfl HO7.out (fun _ h => h) rfl (fun q => wx.heap.size ≤ q) h H7.out.1 (fun q h1 h2 => ⟨by omega, fun e => by
    have h3 := (HO.out.1.lt q e.symm).2
    omega⟩) (by unfold maxLen; omega) (by omega) (by omega) ?_
   intro v8 w8 ho8 hg8 hat8 hne8 hb8'
   have hoff8 : ∀ q, (Value.slice Ao (heldsOf s (List.take k ts)).length co).ownBlock = some q → w2.heap.size ≤ q ∧ q < wr.heap.size := fun q e => ⟨HO.out.2.2.1 q e, (HO.out.1.lt q e).2⟩
   have hbr : Below w2.heap.size w2 w7 := HO.out.2.1.tr (HBX.out.tr H7.out.2)
   have hb9 : Below w2.heap.size w2 w8 := ⟨hg8.os.trans hbr.os, hg8.tape.trans hbr.tape, hg8.output.trans hbr.output, Nat.le_trans hbr.size hg8.size, fun q hq => (hg8.block q (by omega) (fun e => by have := (hoff8 q e.symm).1; omega)).trans (hbr.block q hq)⟩
   have hO9 : Only F wx w8 := (jo H7.out.2).tr (Only.grown hg8 fun q e => by
    rw [HF.out]; have := hoff8 q e; exact ⟨this.1, by omega⟩)
   obtain ⟨A8, c8, rfl, _⟩ := ho8.form
   have hl8 : (heldsOf s (List.take k ts) ++ [h]).length = (heldsOf s (List.take k ts)).length + 1 := by simp
   rw [hl8] at ho8 hat8 ⊢
   have H8 := jh (ja ho8 (ja hb9 hat8))
   clear hl8
   clear ho8 hg8 hne8 hb8' hb9 hoff8 hbr r1 r2 r3 r4
   go_simp
   (refine segw (D := Only F wx) (hO9) ?_; unfold wpMix; simp only [pick, j1, j2, j3, j4]; (repeat (show wpQuiet _ _ _ _ (_ :: _) _; go_big_quiet_step (fail))); refine qn ?_)
   clear z6 x0 x1 x2 hO7 hO8 hO9 hlo
   go_wp2_with fail
   go_round
   case rel => exact ⟨k + 1, by omega, by go_num, by rw [HO.out.2.2.2.1]; exact H8.out.1, H8.out.2.1, fun q e => by
    rcases H8.out.2.2 with h | h
    ·rw [h] at e; exact HO.out.2.2.1 q e
    ·rw [h] at e; injection e with e; omega⟩
   case measure => simp [intOf]; omega
  ·have hkn : k = ts.length := by omega
   subst hkn
   rw [List.take_length] at hown ⊢
   have HO := jh (ja hown hbl)
   clear hown hbl hoff
   go_wp2_with fail
   go_ret
   exact ⟨⟨_, _, rfl, heldsOf_perm HV.out.2.2.2.2.1 H2.out.1, HO.out.1⟩, H2.out.2.2.tr HO.out.2⟩
end Go.Proofs.YtcmjgghkmdbphaaGreatDoor
namespace Go.Proofs.YtcmjgghkmdbphaaGreatDoor
open Go.RowKit
attribute [local go_sem] Stamp.cells
end Go.Proofs.YtcmjgghkmdbphaaGreatDoor
namespace Go.Proofs.YtcmjgghkmdbphaaGreatDoor
open Go.RowKit
theorem MpAt.one {κ β : Type} {enc : κ → Value} {R : Rep β} {V : List Value → Value} {w : World} {P : Nat → Prop} {v : Value} {l : List (κ × β)} (h : MpAt enc R V w P v l) : v.oneCell' = true := by
 rcases h.2 with ⟨e, _⟩ | ⟨m, _, e, _⟩ <;> rw [e] <;> rfl
theorem StIn.one {w : World} {P : Nat → Prop} {s : St} {v : SV} (h : StIn w P s v) : (s.cells v).all (·.oneCell') = true := by
 have h1 := RangeR.sl.one h.ring v.ring (by simp)
 have h2 := RecR.sl.one h.frozen v.frozen (by simp)
 have h3 := EventR.sl.one h.log v.log (by simp)
 have h4 := h.held.one
 have h5 := h.outcomes.one
 have h6 := h.decided.one
 unfold St.cells ptrV
 simp only [List.all_cons, List.all_nil, Bool.and_true, h1, h2, h3, h4, h5, h6]
 rfl
theorem tried_any (g : Nat) (s : St) (r : Rec) (hK : r.kind = 3 ∨ r.kind = 9 ∨ r.kind = 10 ∨ r.kind = 11) (nA pA sA : Option Addr) (nc pc sc : Nat) (P Q : Nat → Prop) (w : World) (h : StAt w P g s) (hS : Fit s)
 (hr : RecAt w Q r nA nc pA pc sA sc) (hF : r.Fair) (hT : Tabs w) (_h2 : 2 ≤ w.heap.size) (hP : PutFair r.streams) (hrl : s.ring.length ≤ 300) (hfl : (freshT s.table).length ≤ 40000) :
 Calls Tryz.prog 141 #[ptrV g, .agg (r.cells nA nc pA pc sA sc).toArray] w fun e w' => e = .returned (.int .i64 (applyS s r).2) ∧ Below w.heap.size w w' := by
 have hgl := h.lt
 obtain ⟨v, hB, hI⟩ := h
 have HI := jh (ja hI (ja hB (ja hr hT)))
 have HR := jh (ja hS (ja hF (ja hP (ja hrl hfl))))
 clear hI hr hT hS hF hP hrl hfl hB
 have hb1 := (jb w.heap.size w).al (.cells (r.cells nA nc pA pc sA sc).toArray 46)
 have B0 := Blk.new w 46 (r.cells nA nc pA pc sA sc)
 have hs1 : (w.alloc (.cells (r.cells nA nc pA pc sA sc).toArray 46)).heap.size = w.heap.size + 1 := by simp
 unfold ptrV
 go_enter Tryz.func141, Tryz.ntmps141
 go_upto_region 1 with fail
 refine forget (M := fun W => Code.wp _ _ _ _ W) (fun W => Below w.heap.size w W ∧ Blk W w.heap.size 46 (r.cells nA nc pA pc sA sc) ∧ W.heap.size = w.heap.size + 1) ⟨hb1, B0, hs1⟩ ?_
 clear B0 hb1 hs1
 rintro w1 ⟨hb1, B0, hs1⟩
 have H1 := jh (ja hb1 (ja B0 (HI.out.2.1.ext hb1)))
 have hs1' : w.heap.size < w1.heap.size := by omega
 have HS1 := jh hs1
 clear hb1 B0 hs1
 have x0 := H1.out.2.2.cell 0
 go_upto_region 4 with (first
  | (refine wpList_load_blk (cs := s.cells v) rfl rfl rfl H1.out.2.2 Tryz.underlying176 rfl (by kernel_rfl) ?_)
  | (refine wpList_store_new (cs := (s.cells v).toArray) rfl rfl rfl rfl rfl (by kernel_rfl) rfl (by simpa using HI.out.1.one) ?_)
  | fail)
 have hb2 := (jb w1.heap.size w1).al (.cells (s.cells v).toArray 176)
 have hw2 := H1.out.1.tr hb2
 have hst : StAt (w1.alloc (.cells (s.cells v).toArray 176)) (fun k => P k ∧ k < w.heap.size) w1.heap.size s := ⟨v, Blk.new w1 176 (s.cells v), HI.out.1.low.same (js hw2)⟩
 have hrec := (HI.out.2.2.1.mono fun k h h' => (⟨h, h'⟩ : Q k ∧ k < w.heap.size)).ext (js hw2) hw2.size
 have CA := applyH_any w1.heap.size s r hK nA pA sA nc pc sc _ _ _ hst (fun h => by have := h.2; omega) HR.out.1 hrec (fun h => by have := h.2; omega) HR.out.2.1 (HI.out.2.2.2.below hw2) (by omega) HR.out.2.2.1 HR.out.2.2.2.1 HR.out.2.2.2.2
 unfold StOut ptrV at CA
 have B2 := H1.out.2.1.ext hb2
 have HW := jh hw2
 clear hst hrec hb2 hw2 x0
 generalize w1.alloc (.cells (s.cells v).toArray 176) = w2 at *
 go_wp2_with (first
  | (refine wpList_load_blk (cs := r.cells nA nc pA pc sA sc) rfl rfl rfl B2 Tryz.underlying46 rfl (by kernel_rfl) ?_)
  | fail)
 refine CA.mono ?_
 clear CA
 rintro e w3 ⟨rfl, _, hO⟩
 have HO := jh hO
 clear hO
 go_wp2_with fail
 go_ret
 exact ⟨rfl, HW.out.trans (HO.out.low (fun k e => by have e' : k = w1.heap.size := e; omega) HW.out.size)⟩
end Go.Proofs.YtcmjgghkmdbphaaGreatDoor
namespace Go.Proofs.YtcmjgghkmdbphaaGreatDoor
open Go.RowKit
def GotStN (B : Nat) (l : List Stream) (e : Ending) (w' : World) : Prop := ∃ A c, e = .returned (.slice A l.length c) ∧ StreamR.Row w' (fun k => B ≤ k) A l
def GotStB (B : Nat) (l : List Stream) (e : Ending) (w' : World) : Prop := ∃ A c, e = .returned (.slice A l.length c) ∧ (l.length ≤ c ∧ c ≤ 9223372036854775807) ∧ StreamR.Row w' (fun k => B ≤ k) A l
theorem stakeB_any (g : Nat) (s : St) (r : Range) (P : Nat → Prop) (w : World) (h : StAt w P g s) (hS : Fit s) :
 Calls Tryz.prog 27 #[ptrV g, .agg #[.int .i64 r.first, .int .i64 r.last, .int .i64 r.owner, .int .i64 r.epoch]] w fun e w' => GotStB w.heap.size (takeT s.table r) e w' ∧ Below w.heap.size w w' := by
 obtain ⟨v, hB, hI⟩ := h
 have hb0 := (jb w.heap.size w).al (.cells #[.int .i64 r.first, .int .i64 r.last, .int .i64 r.owner, .int .i64 r.epoch] 27)
 have B0 := Blk.new w 27 [.int .i64 r.first, .int .i64 r.last, .int .i64 r.owner, .int .i64 r.epoch]
 unfold ptrV
 have HH := jh (ja hB hI.table)
 clear hB hI
 go_enter Tryz.func27, Tryz.ntmps27
 go_upto_region 1 with fail
 generalize hw1 : (w.alloc (.cells #[.int .i64 r.first, .int .i64 r.last, .int .i64 r.owner, .int .i64 r.epoch] 27)) = w1 at *
 clear hw1
 have C1 := gone_any g s.self w1 ((HH.out.1.ext hb0).cell 0) hS.self
 have C2 := take_any v.tb s.table r P w1.drew (HH.out.2.ext hb0.drew) hS.fair.len hS.fair.each
 unfold ptrV Range.val at C2
 unfold ptrV at C1
 have y5 := On.cell ((HH.out.1.ext hb0).cell 5 : w1.cell? ⟨g, 5, none⟩ = some (.pointer (some ⟨v.tb, 0, none⟩)))
 have z0 := On.cell (B0.cell 0 : w1.cell? ⟨w.heap.size, 0, none⟩ = some (.int .i64 r.first))
 have z1 := On.cell (B0.cell 1 : w1.cell? ⟨w.heap.size, 1, none⟩ = some (.int .i64 r.last))
 have z2 := On.cell (B0.cell 2 : w1.cell? ⟨w.heap.size, 2, none⟩ = some (.int .i64 r.owner))
 have z3 := On.cell (B0.cell 3 : w1.cell? ⟨w.heap.size, 3, none⟩ = some (.int .i64 r.epoch))
 have hlo := jb w1.heap.size w1
 have HB0 := jh hb0
 clear B0 hb0 hS
 go_wp2_with fail
 refine C1.mono ?_
 clear C1
 rintro e w' ⟨rfl, rfl⟩
 go_upto_region 3 with fail
 refine wp_region_mix (.seg [0, 1, 2, 3, 4] 5 (.leaf [6])) (fun w' => ∃ d : Wd (On w1), w' = d.w) (by kernel_rfl) (by kernel_rfl) (fun _ _ d _ _ h => by cases d <;> exact h) (ClsW.mk hlo.drew) ?_
 unfold wpMix; simp only [pick, j1, j2, j3, j4]
 (repeat (show wpQuiet _ _ _ _ (_ :: _) _; go_big_quiet_step (fail))); refine qn ?_
 go_wp2_with fail
 refine C2.mono ?_
 clear C2
 rintro e w3 ⟨⟨v3, rfl, ho⟩, hb3'⟩
 have hb3 : Below w1.heap.size w1 w3 := hlo.drew.tr hb3'
 obtain ⟨A3, c3, rfl, hcc⟩ := ho.form
 have HCC := jh hcc
 clear hcc
 have HO := jh (ja ((ho.row (fun _ h => h)).mono (Q := fun k => w.heap.size ≤ k) fun k hk _ => by have h1 : w1.drew.heap.size = w1.heap.size := rfl; have := HB0.out.size; omega) (HB0.out.tr hb3))
 clear ho hb3'
 go_wp2_with fail
 (refine segw (D := On w1) (hb3) ?_; unfold wpMix; simp only [pick, j1, j2, j3, j4]; (repeat (show wpQuiet _ _ _ _ (_ :: _) _; go_big_quiet_step (fail))); refine qn ?_)
 clear y5 z0 z1 z2 z3 hb3 hlo
 go_wp2_with fail
 go_ret
 exact ⟨⟨_, _, rfl, HCC.out, HO.out.1⟩, HO.out.2⟩
theorem stakeN_any (g : Nat) (s : St) (r : Range) (P : Nat → Prop) (w : World) (h : StAt w P g s) (hS : Fit s) :
 Calls Tryz.prog 27 #[ptrV g, .agg #[.int .i64 r.first, .int .i64 r.last, .int .i64 r.owner, .int .i64 r.epoch]] w fun e w' => GotStN w.heap.size (takeT s.table r) e w' ∧ Below w.heap.size w w' :=
 (stakeB_any g s r P w h hS).mono fun _ _ h => ⟨by obtain ⟨A, c, e, _, hr⟩ := h.1; exact ⟨A, c, e, hr⟩, h.2⟩
end Go.Proofs.YtcmjgghkmdbphaaGreatDoor
namespace Go.Proofs.YtcmjgghkmdbphaaGreatDoor
open Go.RowKit
theorem inR_all (n : Str) : inR allHashes n = true := by
 have h := hash_bd n.data.toList
 unfold inR Range.has allHashes hashS
 simp
 omega
theorem take_sub {T : Tab} {r : Range} {x : Stream} (h : x ∈ takeT T r) : x ∈ takeT T allHashes := by
 unfold takeT someT at h ⊢
 obtain ⟨n, hn, rfl⟩ := List.mem_map.1 h
 exact List.mem_map.2 ⟨n, List.mem_filter.2 ⟨(List.mem_filter.1 hn).1, inR_all n⟩, rfl⟩
def weighS (x : Stream) : Int := 300 + 1300 * x.events.length + 250 * x.keys.length
def weighsS (l : List Stream) : Int := (l.map weighS).sum
theorem weighS_nn (x : Stream) : 0 ≤ weighS x := by unfold weighS; omega
theorem weighsS_take {l : List Stream} {k : Nat} (h : k < l.length) : weighsS (l.take (k + 1)) = weighsS (l.take k) + weighS l[k] := by
 unfold weighsS; rw [take_snoc l k h, List.map_append, List.sum_append]; simp
theorem weighsS_le (l : List Stream) (hl : ∀ x ∈ l, x.events.length ≤ 40000 ∧ x.keys.length ≤ 40000) (hn : l.length ≤ 40000) (k : Nat) : 0 ≤ weighsS (l.take k) ∧ weighsS (l.take k) ≤ 100000000 * 40000 := by
 have key : ∀ m : List Stream, (∀ x ∈ m, x.events.length ≤ 40000 ∧ x.keys.length ≤ 40000) → 0 ≤ weighsS m ∧ weighsS m ≤ 100000000 * (m.length : Int) := by
  intro m
  induction m with
  | nil => intro _; exact ⟨Int.le_refl _, by simp [weighsS]⟩
  | cons a m ih =>
    intro h
    have h1 := ih fun x hx => h x (by simp [hx])
    have h2 := h a (by simp)
    have h3 : weighsS (a :: m) = weighS a + weighsS m := by simp [weighsS]
    have h4 : weighS a ≤ 100000000 := by unfold weighS; omega
    have h5 := weighS_nn a
    rw [h3, List.length_cons]
    constructor
    ·omega
    ·push_cast; omega
 have h := key (l.take k) fun x hx => hl x (List.mem_of_mem_take hx)
 have h2 : (l.take k).length ≤ 40000 := by rw [List.length_take]; omega
 exact ⟨h.1, by omega⟩
def weighs (s : St) (r : Range) : Int := weighsS (takeT s.table r) + 400000 * s.held.length
def wS (x : Stream) : Nat := if streamB x = true then lenS x else 0
def wB (b : Batch) : Nat := if checkB b = 0 then lenB b else 0
def wSs (l : List Stream) : Nat := (l.map wS).sum
def wHs (l : List Held) : Nat := (l.map fun h => wB h.batch).sum
def weighX (s : St) (r : Range) : Int := wSs (takeT s.table r) + wHs (s.held.map (·.2))
theorem wS_le (x : Stream) : (wS x : Int) ≤ weighS x := by
 unfold wS weighS
 split
 ·rename_i h; have := (lenS_bd h).2; omega
 ·omega
theorem wB_le (b : Batch) : wB b ≤ 400000 := by
 unfold wB; split
 ·rename_i h; exact (lenB_bd h).2
 ·omega
theorem wSs_le : ∀ l : List Stream, (wSs l : Int) ≤ weighsS l
 | [] => by simp [wSs, weighsS]
 | a :: l => by
   have h1 := wSs_le l
   have h2 := wS_le a
   have e1 : wSs (a :: l) = wS a + wSs l := by simp [wSs]
   have e2 : weighsS (a :: l) = weighS a + weighsS l := by simp [weighsS]
   rw [e1, e2]; omega
theorem wHs_le : ∀ l : List Held, wHs l ≤ 400000 * l.length
 | [] => by simp [wHs]
 | a :: l => by
   have h1 := wHs_le l
   have h2 := wB_le a.batch
   have e1 : wHs (a :: l) = wB a.batch + wHs l := by simp [wHs]
   rw [e1, List.length_cons]; omega
theorem weighX_le (s : St) (r : Range) : 0 ≤ weighX s r ∧ weighX s r ≤ weighs s r := by
 unfold weighX weighs
 have h1 := wSs_le (takeT s.table r)
 have h2 := wHs_le (s.held.map (·.2))
 rw [List.length_map] at h2
 omega
theorem wSs_take {l : List Stream} {k : Nat} (h : k < l.length) : wSs (l.take (k + 1)) = wSs (l.take k) + wS l[k] := by
 unfold wSs; rw [take_snoc l k h, List.map_append, List.sum_append]; simp
theorem wHs_take {l : List Held} {k : Nat} (h : k < l.length) : wHs (l.take (k + 1)) = wHs (l.take k) + wB l[k].batch := by
 unfold wHs; rw [take_snoc l k h, List.map_append, List.sum_append]; simp
theorem wHs_perm {a b : List Held} (h : List.Perm a b) : wHs a = wHs b := (h.map _).sum_nat
theorem weight_ex (g : Nat) (s : St) (r : Range) (P : Nat → Prop) (w : World) (h : StAt w P g s) (hS : Fit s) (hl : s.held.length ≤ 40000) (hT : Tabs w) (_h2 : 2 ≤ w.heap.size) :
 Calls Tryz.prog 46 #[ptrV g, .agg #[.int .i64 r.first, .int .i64 r.last, .int .i64 r.owner, .int .i64 r.epoch]] w fun e w' => e = .returned (.int .i64 (weighX s r)) ∧ Below w.heap.size w w' := by
 have hb0 := (jb w.heap.size w).al (.cells #[.int .i64 r.first, .int .i64 r.last, .int .i64 r.owner, .int .i64 r.epoch] 27)
 have HST := jh (fun W (hW : Below w.heap.size w W) => (show StAt W P g s from by obtain ⟨v, a, b⟩ := h; exact ⟨v, a.ext hW, b.same (js hW)⟩))
 have CT := stakeN_any g s r P _ (HST.out _ hb0) hS
 have hfew : ∀ x ∈ takeT s.table r, x.events.length ≤ 40000 ∧ x.keys.length ≤ 40000 := fun x hx => hS.fair.put.2 x (take_sub hx)
 have hlen : (takeT s.table r).length ≤ 40000 := Nat.le_trans (by
  unfold takeT; rw [List.length_map]
  have h1 : (someT s.table r).length ≤ (sortS (s.table.map (·.1))).length := List.length_filter_le _ _
  rw [sortS_len, List.length_map] at h1
  exact h1) hS.fair.len
 have HF := jh (ja hS (ja hl (ja hT (ja hfew (ja hlen hb0)))))
 clear h hS hl hT hfew hlen hb0
 unfold GotStN ptrV at CT
 unfold ptrV
 go_enter Tryz.func46, Tryz.ntmps46
 go_wp2_with fail
 refine CT.mono ?_
 clear CT
 rintro e w1 ⟨⟨A, c, rfl, hrow⟩, hb1⟩
 have hw1 := HF.out.2.2.2.2.2.tr hb1
 have HR := jh (ja hrow hw1)
 clear hrow hb1 hw1
 have hL := HF.out.2.2.2.2.1
 have HWS := jh (weighsS_le (takeT s.table r) HF.out.2.2.2.1 hL)
 have HWX := jh (show weighX s r = wSs (takeT s.table r) + wHs (s.held.map (·.2)) from rfl)
 have HFW := jh HF.out.2.2.2.1
 generalize takeT s.table r = l at *
 go_wp2_with fail
 go_loopw [4, 13] (fun nv iv wr => ∃ (k : Nat) (m : Int), k ≤ l.length ∧ iv = .int .i64 k ∧ nv = .int .i64 m ∧ 0 ≤ m ∧ m ≤ weighsS (l.take k) ∧ Below w1.heap.size w1 wr ∧ Hid (m = wSs (l.take k))) (fun _ iv _ => l.length - (intOf iv).toNat)
 case atStart => exact ⟨0, 0, Nat.zero_le _, rfl, rfl, Int.le_refl _, by simp [weighsS], jb _ _, jh (by simp [wSs])⟩
 case round =>
  obtain ⟨k, m, hk, rfl, rfl, hm0, hm1, hbl, HMX⟩ := hrel
  have hzr := hbl.size
  have hbd := HWS.out k
  by_cases hlt : k < l.length
  ·have hlt' : (k : Int) < l.length := by omega
   have hlk := jg hlt
   have hfx := HFW.out _ (List.getElem_mem hlt)
   have hws := weighsS_take hlt
   have HXT := wSs_take hlt
   have hbd2 := HWS.out (k + 1)
   obtain ⟨b, o, cs, rfl, _, hbw, hrep, hcs⟩ := (HR.out.1.ext hbl).at_ hlk
   generalize l[k] = x at *
   replace HXT := jh HXT
   obtain ⟨eA, ec, kA, kc, rfl, hn, _, _, hev, _, _, hkr⟩ := stream_rep.1 hrep
   have c0 := hcs 0 _ rfl
   have c1 := hcs 1 _ rfl
   have c2 := hcs 2 _ rfl
   have hsz : StreamR.size = 3 := rfl
   simp only [hsz, Nat.add_zero] at c0 c1 c2
   have hbx := (jb wr.heap.size wr).al (.cells #[.string x.name, .slice eA x.events.length ec, .slice kA x.keys.length kc] 199)
   have CE := encodeS_ex x eA kA ec kc _ (wr.alloc (.cells #[.string x.name, .slice eA x.events.length ec, .slice kA x.keys.length kc] 199)) hn (hev.ext hbx) (hkr.ext hbx) hfx.1 hfx.2 (HF.out.2.2.1.below (HR.out.2.tr (hbl.tr hbx))) (by have := HR.out.2.size; simp; omega)
   have HX := jh (ja hws (hbl.tr hbx))
   have hwx : weighS x = 300 + 1300 * x.events.length + 250 * x.keys.length := rfl
   clear hlk hrep hcs hev hkr hbx hsz hfx
   rw [hws] at hbd2
   have HB2 := jh (ja hbd hbd2)
   have hx1 : m ≤ 4000000000000 := by omega
   have hx2 : (300 : Int) + 1300 * x.events.length + 250 * x.keys.length ≤ 4000000000000 := by omega
   have HM := jh (ja hm1 hwx)
   clear hbd hbd2 hm1 hwx hws
   cases hsb : streamB x
   ·rw [hsb] at CE
    have HW0 := jh (show wS x = 0 by unfold wS; rw [hsb]; rfl)
    clear hsb
    go_wp2_with fail
    refine CE.mono ?_
    clear CE c0 c1 c2
    rintro e w2 ⟨he, hb2⟩
    obtain rfl := he.out0
    have HB := jh (HX.out.2.tr hb2)
    clear hb2 he
    have hwp : wrap64 (m + 0) = m := by rw [Int.add_zero]; exact wrap_in _ (by omega)
    go_wp2_with fail
    go_round
    case rel => exact ⟨k + 1, m, by omega, by go_num, by first | rfl | (rw [show m + 0 = m by omega]), hm0, by rw [HX.out.1]; have h1 := HM.out.1; have h2 := weighS_nn x; omega, HB.out, jh (by have q1 := HMX.out; have q2 := HXT.out; have q3 := HW0.out; omega)⟩
    case measure => simp [intOf]; omega
   ·rw [hsb] at CE
    have HW0 := jh (show wS x = lenS x by unfold wS; rw [hsb]; rfl)
    have HLB := jh (lenS_bd hsb)
    clear hsb
    go_wp2_with fail
    refine CE.mono ?_
    clear CE c0 c1 c2
    rintro e w2 ⟨he, hb2⟩
    obtain ⟨rv, nn, rfl, hbt, hnx1, hnx2⟩ := he.out1
    have HYtcmjgghkmdbphaaGreatDoor := jh (show nn = lenS x by omega)
    have hn1 : 1 ≤ nn := by have := HLB.out; omega
    have hn2 : nn ≤ 300 + 1300 * x.events.length + 250 * x.keys.length := by have := HLB.out; omega
    clear hnx1 hnx2
    obtain ⟨Av, cv, rfl, _⟩ := hbt.form
    have HB := jh (HX.out.2.tr hb2)
    have hnn : (nn : Int) ≤ 300 + 1300 * x.events.length + 250 * x.keys.length := by omega
    clear hb2 he hbt
    have hwp : wrap64 (m + nn) = m + nn := wrap_in _ (by omega)
    go_wp2_with fail
    go_round
    case rel => exact ⟨k + 1, m + nn, by omega, by go_num, rfl, by omega, by rw [HX.out.1]; have h1 := HM.out.1; have h2 := HM.out.2; omega, HB.out, jh (by have q1 := HMX.out; have q2 := HXT.out; have q3 := HW0.out; have q4 := HYtcmjgghkmdbphaaGreatDoor.out; omega)⟩
    case measure => simp [intOf]; omega
  ·have hkn : k = l.length := by omega
   subst hkn
   rw [List.take_length] at hbd hm1 HMX
   have CH := sheld_any g s P wr (HST.out wr (HR.out.2.tr hbl)) HF.out.1.self HF.out.1.held (by have := HF.out.2.1; omega)
   unfold GotHelds ptrV at CH
   have HM := jh (ja hm1 (ja hbd (HR.out.2.tr hbl)))
   have hm9 : m ≤ 4000000000000 := by omega
   clear hm1 hbd hbl
   go_wp2_with fail
   refine CH.mono ?_
   clear CH
   rintro e w2 ⟨⟨v, hs, rfl, hp, ho⟩, hb2⟩
   have HPM := jh hp
   have hln : hs.length = s.held.length := by rw [hp.length_eq, List.length_map]
   have hfit : ∀ x ∈ hs, HeldFit x := fun x hx => by
    obtain ⟨q, hq, e⟩ := List.mem_map.1 (hp.subset hx)
    rw [← e]; exact HF.out.1.held q hq
   have hlq : hs.length ≤ 40000 := by rw [hln]; exact HF.out.2.1
   obtain ⟨Ah, ch, rfl, _⟩ := ho.form
   have HH := jh (ja (ho.row (S := fun k => _ ≤ k) fun _ h => h) (ja hfit (ja hln (HM.out.2.2.tr hb2))))
   clear hp ho hb2 hfit hln
   go_wp2_with fail
   go_loopw [4, 26] (fun nv iv wq => ∃ (k : Nat) (q : Int), k ≤ hs.length ∧ iv = .int .i64 k ∧ nv = .int .i64 q ∧ 0 ≤ q ∧ q ≤ m + 400000 * k ∧ Below w2.heap.size w2 wq ∧ Hid (q = m + wHs (hs.take k))) (fun _ iv _ => hs.length - (intOf iv).toNat)
   case atStart => exact ⟨0, m, Nat.zero_le _, rfl, rfl, hm0, by omega, jb _ _, jh (by simp [wHs])⟩
   case round =>
    obtain ⟨k, q, hk, rfl, rfl, hq0, hq1, hbl, HQX⟩ := hrel
    have hzq := hbl.size
    by_cases hlt : k < hs.length
    ·have hlt' : (k : Int) < hs.length := by omega
     have hlk := jg hlt
     have hfx := HH.out.2.1 _ (List.getElem_mem hlt)
     obtain ⟨b, o, cs, rfl, _, hbw, hrep, hcs⟩ := (HH.out.1.ext hbl).at_ hlk
     have HXT := wHs_take hlt
     generalize hs[k] = x at *
     replace HXT := jh HXT
     obtain ⟨pA, pc, fA, fc, rfl, _, hk1, _, k4, _⟩ := held_rep.1 hrep
     unfold Held.cellsV at hcs
     have c0 := hcs 0 _ rfl
     have c1 := hcs 1 _ rfl
     have c2 := hcs 2 _ rfl
     have c3 := hcs 3 _ rfl
     have c4 := hcs 4 _ rfl
     have c5 := hcs 5 _ rfl
     have c6 := hcs 6 _ rfl
     have c7 := hcs 7 _ rfl
     have c8 := hcs 8 _ rfl
     have hsz : HeldR.size = 9 := rfl
     simp only [hsz, Nat.add_zero] at c0 c1 c2 c3 c4 c5 c6 c7 c8
     have hbx := (jb wr.heap.size wr).al (.cells #[.int .i64 x.tx.node, .int .i64 x.tx.life, .int .i64 x.tx.num, .string x.batch.key, .slice pA x.batch.puts.length pc, .int .i64 x.stamp.wall, .int .i64 x.stamp.logic, .int .i64 x.stamp.node, .slice fA x.firsts.length fc] 192)
     have CE := encodeB_ex x.batch pA pc _ (wr.alloc (.cells #[.int .i64 x.tx.node, .int .i64 x.tx.life, .int .i64 x.tx.num, .string x.batch.key, .slice pA x.batch.puts.length pc, .int .i64 x.stamp.wall, .int .i64 x.stamp.logic, .int .i64 x.stamp.node, .slice fA x.firsts.length fc] 192)) (k4.2.2.ext hbx) (by have := hfx.few; omega) hk1 (fun p hp => by have := (hfx.data p hp).1; omega) (HF.out.2.2.1.below (HH.out.2.2.2.tr (hbl.tr hbx))) (by have := HH.out.2.2.2.size; simp; omega)
     have HX := jh (hbl.tr hbx)
     clear hlk hrep hcs k4 hbx hsz hfx
     cases hsb : decide (checkB x.batch = 0)
     ·rw [hsb] at CE
      have HW0 := jh (show wB x.batch = 0 by unfold wB; rw [if_neg (of_decide_eq_false hsb)])
      clear hsb
      go_wp2_with fail
      refine CE.mono ?_
      clear CE c0 c1 c2 c3 c4 c5 c6 c7 c8
      rintro e w3 ⟨he, hb3⟩
      obtain rfl := he.out0
      have HB := jh (HX.out.tr hb3)
      clear hb3 he
      have hwp : wrap64 (q + 0) = q := by rw [Int.add_zero]; exact wrap_in _ (by omega)
      go_wp2_with fail
      go_round
      case rel => exact ⟨k + 1, q, by omega, by go_num, by first | rfl | (rw [show q + 0 = q by omega]), hq0, by omega, HB.out, jh (by have q1 := HQX.out; have q2 := HXT.out; have q3 := HW0.out; omega)⟩
      case measure => simp [intOf]; omega
     ·rw [hsb] at CE
      have HW0 := jh (show wB x.batch = lenB x.batch by unfold wB; rw [if_pos (of_decide_eq_true hsb)])
      have HLB := jh (lenB_bd (of_decide_eq_true hsb))
      clear hsb
      go_wp2_with fail
      refine CE.mono ?_
      clear CE c0 c1 c2 c3 c4 c5 c6 c7 c8
      rintro e w3 ⟨he, hb3⟩
      obtain ⟨rv, nn, rfl, hbt, hnx1, hnx2⟩ := he.out1
      have HYtcmjgghkmdbphaaGreatDoor := jh (show nn = lenB x.batch by omega)
      have hn1 : 1 ≤ nn := by have := HLB.out; omega
      have hn2 : nn ≤ 400000 := by have := HLB.out; omega
      clear hnx1 hnx2
      obtain ⟨Av, cv, rfl, _⟩ := hbt.form
      have HB := jh (HX.out.tr hb3)
      have hnn : (nn : Int) ≤ 400000 := by omega
      clear hb3 he hbt
      have hwp : wrap64 (q + nn) = q + nn := wrap_in _ (by omega)
      go_wp2_with fail
      go_round
      case rel => exact ⟨k + 1, q + nn, by omega, by go_num, rfl, by omega, by omega, HB.out, jh (by have q1 := HQX.out; have q2 := HXT.out; have q3 := HW0.out; have q4 := HYtcmjgghkmdbphaaGreatDoor.out; omega)⟩
      case measure => simp [intOf]; omega
    ·have hkn : k = hs.length := by omega
     subst hkn
     have HB := jh hbl
     clear hbl
     have HQ := jh (show q = weighX s r by
      have q1 := HQX.out
      rw [List.take_length] at q1
      have q2 := HMX.out
      rw [HWX.out, ← wHs_perm HPM.out]; omega)
     go_wp2_with fail
     go_ret
     refine ⟨?_, HH.out.2.2.2.tr HB.out⟩
     rw [← HQ.out]; rfl
end Go.Proofs.YtcmjgghkmdbphaaGreatDoor
namespace Go.Proofs.YtcmjgghkmdbphaaGreatDoor
open Go.RowKit
def frzR (x : Range) (t : Int) : Rec := ⟨9, 0, t, false, zeroStamp, ⟨0, 0, 0⟩, [], ⟨⟨#[]⟩, []⟩, x, []⟩
def recZ : List Value := [.int .i64 0, .int .i64 0, .int .i64 0, .bool false, .int .i64 0, .int .i64 0, .int .i64 0, .int .i64 0, .int .i64 0, .int .i64 0, .slice none 0 0, .string ⟨#[]⟩, .slice none 0 0, .int .i64 0, .int .i64 0, .int .i64 0, .int .i64 0, .slice none 0 0]
def frzV (x : Range) (t : Int) : List Value := [.int .i64 9, .int .i64 0, .int .i64 t, .bool false, .int .i64 0, .int .i64 0, .int .i64 0, .int .i64 0, .int .i64 0, .int .i64 0, .slice none 0 0, .string ⟨#[]⟩, .slice none 0 0, .int .i64 x.first, .int .i64 x.last, .int .i64 x.owner, .int .i64 x.epoch, .slice none 0 0]
theorem frz_cells (x : Range) (t : Int) : (frzR x t).cells none 0 none 0 none 0 = frzV x t := rfl
theorem frz_at {w : World} {P : Nat → Prop} {x : Range} {t : Int} (hx : x.fit) (ht : i64 t) : RecAt w P (frzR x t) none 0 none 0 none 0 :=
 ⟨i64_small 9 (by omega), i64_small 0 (by omega), ht, ⟨i64_small 0 (by omega), i64_small 0 (by omega), i64_small 0 (by omega)⟩, ⟨i64_small 0 (by omega), i64_small 0 (by omega), i64_small 0 (by omega)⟩, ⟨Nat.le_refl _, by decide, Rep.Row.nil_⟩, (by show (0 : Nat) ≤ _; omega), ⟨Nat.le_refl _, by decide, Rep.Row.nil_⟩, hx, ⟨Nat.le_refl _, by decide, Rep.Row.nil_⟩⟩
theorem frz_fair {x : Range} {t : Int} : (frzR x t).Fair := ⟨by show (0 : Nat) ≤ _; decide, (fun p hp => by cases hp), by show (0 : Nat) ≤ _; decide, by show (0 : Nat) ≤ _; decide, by show (0 : Nat) ≤ _; decide, fun s hs => by cases hs⟩
theorem frz_put {x : Range} {t : Int} : PutFair (frzR x t).streams := ⟨by show (0 : Nat) ≤ _; decide, fun s hs => by cases hs⟩
def frzI (s : St) (first : Int) : Int := idxI (fun r : Range => decide (r.first = first)) s.ring
def frzX (s : St) (first : Int) : Range := s.ring.getD (frzI s first).toNat zeroRange
def frzOk (s : St) (first : Int) : Prop := 0 ≤ frzI s first ∧ (applyS s (frzR (frzX s first) 0)).2 ≠ 8 ∧ lockedS s (frzX s first) = false
def GotFreeze (s : St) (first t : Int) (e : Ending) : Prop :=
 (∃ code : Int, e = .returned (.tuple #[.agg recZ.toArray, .int .i64 code]) ∧ code ≠ 0 ∧ ¬ (frzOk s first ∧ weighs s (frzX s first) ≤ 30000 ∧ (takeT s.table (frzX s first)).length ≤ 1000)) ∨
 (e = .returned (.tuple #[.agg (frzV (frzX s first) t).toArray, .int .i64 0]) ∧ frzOk s first)
theorem frzHas_any (n : Int) (b : Nat) (r : Range) (w : World) (hb : w.cell? ⟨b, 0, none⟩ = some (.int .i64 n)) : Calls Tryz.prog 140 #[.agg #[.int .i64 r.first, .int .i64 r.last, .int .i64 r.owner, .int .i64 r.epoch], .pointer (some ⟨b, 0, none⟩)] w fun e w' => e = .returned (.bool (decide (r.first = n))) ∧ Below w.heap.size w w' := by
 have hlt := lt_of_cell hb
 have hb' : (w.alloc (.cells #[.int .i64 r.first, .int .i64 r.last, .int .i64 r.owner, .int .i64 r.epoch] 27)).cell? ⟨b, 0, none⟩ = some (.int .i64 n) := (Below.cell ((jb _ w).al _) (p := ⟨b, 0, none⟩) hlt).trans hb
 go_enter Tryz.func140, Tryz.ntmps140
 go_wp2
 go_ret
 refine ⟨ret_bool ?_, by repeat (with_reducible first | assumption | exact jb _ _ | refine Below.al ?_ _ | refine Below.drew ?_ | apply Below.st1)⟩
 go_light
 rw [Bool.eq_iff_iff]
 simp
theorem enters_frz : ∀ args w, (callFunc 140 args).run Tryz.prog w = .ok (.enter 140 args) w := enters_of Tryz.func140 (by kernel_rfl) rfl
def frzCode (s : St) (first : Int) : Int :=
 if frzI s first < 0 then 8 else if (applyS s (frzR (frzX s first) 0)).2 = 8 then 8 else if lockedS s (frzX s first) = true then 11
 else if 30000 < weighX s (frzX s first) then 2 else if 1000 < (takeT s.table (frzX s first)).length then 2 else 0
def GotFrz (s : St) (first t : Int) (e : Ending) : Prop :=
 (frzCode s first ≠ 0 ∧ e = .returned (.tuple #[.agg recZ.toArray, .int .i64 (frzCode s first)])) ∨ (frzCode s first = 0 ∧ e = .returned (.tuple #[.agg (frzV (frzX s first) t).toArray, .int .i64 0]))
theorem GotFrz.bad {s : St} {first t c : Int} (h : frzCode s first = c) (h0 : c ≠ 0) : GotFrz s first t (.returned (.tuple #[.agg recZ.toArray, .int .i64 c])) := .inl ⟨by rw [h]; exact h0, by rw [h]⟩
theorem frzCode_zero {s : St} {first : Int} (h : frzCode s first = 0) : frzOk s first ∧ weighX s (frzX s first) ≤ 30000 ∧ (takeT s.table (frzX s first)).length ≤ 1000 := by
 unfold frzCode at h
 split at h
 ·cases h
 split at h
 ·cases h
 split at h
 ·cases h
 split at h
 ·cases h
 split at h
 ·cases h
 rename_i h1 h2 h3 h4 h5
 exact ⟨⟨by omega, h2, by simpa using h3⟩, by omega, by omega⟩
theorem frzCode_no {s : St} {first : Int} (h : frzCode s first ≠ 0) : ¬ (frzOk s first ∧ weighs s (frzX s first) ≤ 30000 ∧ (takeT s.table (frzX s first)).length ≤ 1000) := by
 rintro ⟨⟨h1, h2, h3⟩, h4, h5⟩
 apply h
 have h6 := (weighX_le s (frzX s first)).2
 unfold frzCode
 rw [if_neg (by omega), if_neg h2, if_neg (by rw [h3]; decide), if_neg (by omega), if_neg (by omega)]
theorem GotFrz.old {s : St} {first t : Int} {e : Ending} (h : GotFrz s first t e) : GotFreeze s first t e := by
 rcases h with ⟨h, rfl⟩ | ⟨h, rfl⟩
 ·exact .inl ⟨_, rfl, h, frzCode_no h⟩
 ·exact .inr ⟨rfl, (frzCode_zero h).1⟩
theorem freezeH_ex (g : Nat) (s : St) (first t : Int) (P : Nat → Prop) (w : World) (h : StAt w P g s) (hS : Fit s) (hl : s.held.length ≤ 40000) (hT : Tabs w) (h2 : 2 ≤ w.heap.size) (hrl : s.ring.length ≤ 300) (hfl : (freshT s.table).length ≤ 40000) (hrf : ∀ x ∈ s.ring, x.fit) :
 Calls Tryz.prog 47 #[ptrV g, .int .i64 first, .int .i64 t] w fun e w' => GotFrz s first t e ∧ Below w.heap.size w w' := by
 have HST := jh (fun W (hW : Below w.heap.size w W) => (show StAt W P g s from by obtain ⟨v, a, b⟩ := h; exact ⟨v, a.ext hW, b.same (js hW)⟩))
 have hb1 := ((jb w.heap.size w).al (.cells #[.int .i64 first] 3)).al (.cells recZ.toArray 46)
 have B0 := (Blk.new w 3 [.int .i64 first]).alloc (.cells recZ.toArray 46)
 have B1 := Blk.new1 w (.cells #[.int .i64 first] 3) 46 recZ
 have HF := jh (ja hS (ja hl (ja hT (ja hrl (ja hfl hrf)))))
 have HB := jh (ja hb1 (ja B0 B1))
 have C1 := sranges_any g s P _ (HST.out _ hb1) hS.self (by omega)
 clear h hS hl hT hrl hfl hrf hb1 B0 B1
 unfold GotOwn ptrV at C1
 unfold ptrV
 unfold recZ at C1 HB
 go_enter Tryz.func47, Tryz.ntmps47
 go_wp2_with fail
 refine C1.mono ?_
 clear C1
 rintro e w1 ⟨⟨v, rfl, ho⟩, hb1⟩
 obtain ⟨A, c, rfl, _⟩ := ho.form
 have HW := jh (ja (HB.out.1.tr hb1) (ja (HB.out.2.1.ext hb1) (ja (HB.out.2.2.ext hb1) (ho.row' range_plain (P := fun _ => True) fun _ _ => trivial))))
 clear ho hb1 HB
 have CI := idxF_Range 140 [.pointer (some ⟨w.heap.size, 0, none⟩)] (fun r => decide (r.first = first)) enters_frz A c s.ring (fun _ => True) w1 HW.out.2.2.2 (by have := HF.out.2.2.2.1; omega) (fun a cs W' _ ha hb' => by
  obtain ⟨rfl, _⟩ := range_rep.1 ha
  exact frzHas_any first w.heap.size a W' ((HW.out.2.1.ext hb').cell 0))
 go_wp2_with fail
 refine CI.mono ?_
 clear CI
 rintro e w2 ⟨rfl, hb2⟩
 have HW2 := jh (ja (HW.out.1.tr hb2) (ja (HW.out.2.2.1.ext hb2) (HW.out.2.2.2.ext hb2)))
 clear hb2 HW
 have HI := jh (show frzI s first = idxI (fun r => decide (r.first = first)) s.ring from rfl)
 obtain ⟨hbd1, hbd2⟩ := idxI_bd (fun r : Range => decide (r.first = first)) s.ring
 generalize idxI (fun r => decide (r.first = first)) s.ring = i at *
 have hl300 := HF.out.2.2.2.1
 by_cases hi : i < 0
 ·have HN := jh (show frzCode s first = 8 from by unfold frzCode; rw [if_pos (by rw [HI.out]; exact hi)])
  go_wp2_with (first
   | (refine wpList_store_blk (cs := recZ) rfl rfl rfl rfl rfl HW2.out.2.1 (by kernel_rfl) rfl (by simp [recZ, Value.oneCell']) ?_; intro w9 hB9 hO9 hz9)
   | fail)
  exact bodyPost_ret (results_blk_tmp (t := 46) (cs := recZ) rfl _ hB9 rfl Tryz.underlying46 rfl (by kernel_rfl)) rfl ⟨.bad HN.out (by decide), HW2.out.1.trans (hO9.low (fun k e => by have e' : k = w.heap.size + 1 := e; omega) HW2.out.1.size)⟩
 ·obtain ⟨k, rfl⟩ : ∃ k : Nat, i = k := ⟨i.toNat, by omega⟩
  have hkl : k < s.ring.length := by omega
  have hlk := jg hkl
  have HX := jh (show frzX s first = s.ring[k] from by unfold frzX; rw [HI.out]; simp [List.getD, hlk])
  have hxf := HF.out.2.2.2.2.2 _ (List.getElem_mem hkl)
  have hi' : decide ((k : Int) < 0) = false := jd hi
  obtain ⟨b, o, cs, rfl, _, hbw, hrep, hcs⟩ := HW2.out.2.2.at_ hlk
  generalize s.ring[k] = x at *
  obtain ⟨rfl, _⟩ := range_rep.1 hrep
  have c0 := hcs 0 _ rfl; have c1 := hcs 1 _ rfl; have c2 := hcs 2 _ rfl; have c3 := hcs 3 _ rfl; simp only [RangeR_size, Nat.add_zero] at c0 c1 c2 c3
  have HIC := jh (ja hlk hxf)
  clear hlk hrep hcs hi hbd1 hbd2
  have CT := tried_any g s (frzR x 0) (.inr (.inl rfl)) none none none 0 0 0 P (fun _ => True) w2 (HST.out w2 HW2.out.1) HF.out.1 (frz_at hxf (i64_small 0 (by omega))) frz_fair (HF.out.2.2.1.below HW2.out.1) (by have := HW2.out.1.size; omega) frz_put HF.out.2.2.2.1 HF.out.2.2.2.2.1
  rw [frz_cells] at CT
  unfold frzV ptrV at CT
  clear hxf
  go_wp2_with fail
  refine CT.mono ?_
  clear CT c0 c1 c2 c3
  rintro e w3 ⟨rfl, hb3⟩
  have HC := jh (show (applyS s (frzR (frzX s first) 0)).2 = (applyS s (frzR x 0)).2 from by rw [HX.out])
  have HW3 := jh (ja (HW2.out.1.tr hb3) (ja (HW2.out.2.1.ext hb3) (HW2.out.2.2.ext hb3)))
  clear hb3 HW2
  generalize (applyS s (frzR x 0)).2 = code at *
  by_cases h8 : code = 8
  ·have HN := jh (show frzCode s first = 8 from by unfold frzCode; rw [if_neg (by rw [HI.out]; omega), if_pos (HC.out.trans h8)])
   subst h8
   go_wp2_with (first
    | (refine wpList_store_blk (cs := recZ) rfl rfl rfl rfl rfl HW3.out.2.1 (by kernel_rfl) rfl (by simp [recZ, Value.oneCell']) ?_; intro w9 hB9 hO9 hz9)
    | fail)
   exact bodyPost_ret (results_blk_tmp (t := 46) (cs := recZ) rfl _ hB9 rfl Tryz.underlying46 rfl (by kernel_rfl)) rfl ⟨.bad HN.out (by decide), HW3.out.1.trans (hO9.low (fun k e => by have e' : k = w.heap.size + 1 := e; omega) HW3.out.1.size)⟩
  ·have h8' : (code == 8) = false := by rw [beq_eq_false_iff_ne]; exact h8
   have HN8 := jh (show (applyS s (frzR (frzX s first) 0)).2 ≠ 8 from by rw [HC.out]; exact h8)
   clear h8
   obtain ⟨b', o', cs, hA, _, hbw', hrep, hcs⟩ := HW3.out.2.2.at_ HIC.out.1
   injection hA with hA
   injection hA with hA1 hA2
   subst hA1
   subst hA2
   obtain ⟨rfl, _⟩ := range_rep.1 hrep
   have c0 := hcs 0 _ rfl; have c1 := hcs 1 _ rfl; have c2 := hcs 2 _ rfl; have c3 := hcs 3 _ rfl; simp only [RangeR_size, Nat.add_zero] at c0 c1 c2 c3
   clear hrep hcs
   go_upto_region 6 with fail
   have hbx := (jb w3.heap.size w3).al (.cells #[.int .i64 x.first, .int .i64 x.last, .int .i64 x.owner, .int .i64 x.epoch] 27)
   have HW4 := jh (ja (HW3.out.1.tr hbx) (ja (HW3.out.2.1.ext hbx) (ja (HW3.out.2.2.ext hbx) (Blk.new w3 27 [.int .i64 x.first, .int .i64 x.last, .int .i64 x.owner, .int .i64 x.epoch]))))
   clear hbx HW3 c0 c1 c2 c3
   generalize w3.alloc (.cells #[.int .i64 x.first, .int .i64 x.last, .int .i64 x.owner, .int .i64 x.epoch] 27) = w4 at *
   have q0 := HW4.out.2.2.2.cell
   have hq := HW4.out.2.2.2.lt
   have CL := locked_any g s x P w4 (HST.out w4 HW4.out.1) HF.out.1.self (fun y hy => by have := (HF.out.1.held y hy).few; omega)
   unfold ptrV at CL
   cases hlo : lockedS s x
   ·rw [hlo] at CL
    have HL := jh (show lockedS s (frzX s first) = false from by rw [HX.out]; exact hlo)
    have HOK := jh (show frzCode s first = if 30000 < weighX s (frzX s first) then 2 else if 1000 < (takeT s.table (frzX s first)).length then 2 else 0 from by unfold frzCode; rw [if_neg (by rw [HI.out]; omega), if_neg HN8.out, if_neg (by rw [HL.out]; decide)])
    clear hlo
    go_wp2_with fail
    refine CL.mono ?_
    clear CL q0 hq
    rintro e w5 ⟨rfl, hb5⟩
    have HW5 := jh (ja (HW4.out.1.tr hb5) (ja (HW4.out.2.1.ext hb5) (ja (HW4.out.2.2.1.ext hb5) (HW4.out.2.2.2.ext hb5))))
    clear hb5 HW4
    have q0 := HW5.out.2.2.2.cell
    have hq := HW5.out.2.2.2.lt
    have CW := weight_ex g s x P w5 (HST.out w5 HW5.out.1) HF.out.1 HF.out.2.1 (HF.out.2.2.1.below HW5.out.1) (by have := HW5.out.1.size; omega)
    have HXW := jh (show weighX s (frzX s first) = weighX s x from by rw [HX.out])
    generalize hnn : weighX s x = n at *
    replace hnn := jh hnn
    unfold ptrV at CW
    go_wp2_with fail
    refine CW.mono ?_
    clear CW q0 hq
    rintro e w6 ⟨rfl, hb6⟩
    have HW6 := jh (ja (HW5.out.1.tr hb6) (ja (HW5.out.2.1.ext hb6) (ja (HW5.out.2.2.1.ext hb6) (HW5.out.2.2.2.ext hb6))))
    clear hb6 HW5
    have q0 := HW6.out.2.2.2.cell
    have hq := HW6.out.2.2.2.lt
    by_cases hbig : 30000 < n
    ·have HY := jh (show frzCode s first = 2 from by rw [HOK.out, HXW.out, if_pos hbig])
     go_wp2_with (first
      | (refine wpList_store_blk (cs := recZ) rfl rfl rfl rfl rfl HW6.out.2.1 (by kernel_rfl) rfl (by simp [recZ, Value.oneCell']) ?_; intro w9 hB9 hO9 hz9)
      | fail)
     exact bodyPost_ret (results_blk_tmp (t := 46) (cs := recZ) rfl _ hB9 rfl Tryz.underlying46 rfl (by kernel_rfl)) rfl ⟨.bad HY.out (by decide), HW6.out.1.trans (hO9.low (fun k e => by have e' : k = w.heap.size + 1 := e; omega) HW6.out.1.size)⟩
    ·have hbig' : decide ((30000 : Int) < n) = false := jd hbig
     have HOK2 := jh (show frzCode s first = if 1000 < (takeT s.table (frzX s first)).length then 2 else 0 from by rw [HOK.out, HXW.out, if_neg hbig])
     have CK := stakeN_any g s x P w6 (HST.out w6 HW6.out.1) HF.out.1
     unfold GotStN ptrV at CK
     have HTL := jh (show (takeT s.table (frzX s first)).length = (takeT s.table x).length from by rw [HX.out])
     clear hbig
     go_wp2_with fail
     refine CK.mono ?_
     clear CK q0 hq
     rintro e w7 ⟨⟨A7, c7, rfl, _⟩, hb7⟩
     have HW7 := jh (ja (HW6.out.1.tr hb7) (ja (HW6.out.2.1.ext hb7) (HW6.out.2.2.1.ext hb7)))
     clear hb7 HW6
     generalize (takeT s.table x).length = tl at *
     by_cases ht : (1000 : Int) < tl
     ·have HY := jh (show frzCode s first = 2 from by rw [HOK2.out, HTL.out, if_pos (by omega)])
      go_wp2_with (first
       | (refine wpList_store_blk (cs := recZ) rfl rfl rfl rfl rfl HW7.out.2.1 (by kernel_rfl) rfl (by simp [recZ, Value.oneCell']) ?_; intro w9 hB9 hO9 hz9)
       | fail)
      exact bodyPost_ret (results_blk_tmp (t := 46) (cs := recZ) rfl _ hB9 rfl Tryz.underlying46 rfl (by kernel_rfl)) rfl ⟨.bad HY.out (by decide), HW7.out.1.trans (hO9.low (fun k e => by have e' : k = w.heap.size + 1 := e; omega) HW7.out.1.size)⟩
     ·have ht' : decide ((1000 : Int) < tl) = false := jd ht
      have HY := jh (show frzCode s first = 0 from by rw [HOK2.out, HTL.out, if_neg (by omega)])
      clear ht
      obtain ⟨b', o', cs, hA, _, hbw', hrep, hcs⟩ := HW7.out.2.2.at_ HIC.out.1
      injection hA with hA
      injection hA with hA1 hA2
      subst hA1
      subst hA2
      obtain ⟨rfl, _⟩ := range_rep.1 hrep
      have c0 := hcs 0 _ rfl; have c1 := hcs 1 _ rfl; have c2 := hcs 2 _ rfl; have c3 := hcs 3 _ rfl; simp only [RangeR_size, Nat.add_zero] at c0 c1 c2 c3
      clear hrep hcs
      go_wp2_with (first
       | (refine wpList_store_blk (cs := frzV x t) rfl rfl rfl rfl rfl HW7.out.2.1 (by kernel_rfl) rfl (by simp [frzV, Value.oneCell']) ?_; intro w9 hB9 hO9 hz9)
       | fail)
      exact bodyPost_ret (results_blk_tmp (t := 46) (cs := frzV x t) rfl _ hB9 rfl Tryz.underlying46 rfl (by kernel_rfl)) rfl ⟨.inr ⟨HY.out, by rw [HX.out]; rfl⟩, HW7.out.1.trans (hO9.low (fun k e => by have e' : k = w.heap.size + 1 := e; omega) HW7.out.1.size)⟩
   ·rw [hlo] at CL
    have HN := jh (show frzCode s first = 11 from by unfold frzCode; rw [if_neg (by rw [HI.out]; omega), if_neg HN8.out, if_pos (by rw [HX.out]; exact hlo)])
    clear hlo
    go_wp2_with fail
    refine CL.mono ?_
    clear CL q0 hq
    rintro e w5 ⟨rfl, hb5⟩
    have HW5 := jh (ja (HW4.out.1.tr hb5) (HW4.out.2.1.ext hb5))
    clear hb5 HW4
    go_wp2_with (first
     | (refine wpList_store_blk (cs := recZ) rfl rfl rfl rfl rfl HW5.out.2 (by kernel_rfl) rfl (by simp [recZ, Value.oneCell']) ?_; intro w9 hB9 hO9 hz9)
     | fail)
    exact bodyPost_ret (results_blk_tmp (t := 46) (cs := recZ) rfl _ hB9 rfl Tryz.underlying46 rfl (by kernel_rfl)) rfl ⟨.bad HN.out (by decide), HW5.out.1.trans (hO9.low (fun k e => by have e' : k = w.heap.size + 1 := e; omega) HW5.out.1.size)⟩
theorem freezeH_any (g : Nat) (s : St) (first t : Int) (P : Nat → Prop) (w : World) (h : StAt w P g s) (hS : Fit s) (hl : s.held.length ≤ 40000) (hT : Tabs w) (h2 : 2 ≤ w.heap.size) (hrl : s.ring.length ≤ 300) (hfl : (freshT s.table).length ≤ 40000) (hrf : ∀ x ∈ s.ring, x.fit) :
 Calls Tryz.prog 47 #[ptrV g, .int .i64 first, .int .i64 t] w fun e w' => GotFreeze s first t e ∧ Below w.heap.size w w' :=
 (freezeH_ex g s first t P w h hS hl hT h2 hrl hfl hrf).mono fun _ _ q => ⟨q.1.old, q.2⟩
end Go.Proofs.YtcmjgghkmdbphaaGreatDoor
namespace Go.Proofs.YtcmjgghkmdbphaaGreatDoor
open Go.RowKit
theorem sfrozen_any (g : Nat) (s : St) (P : Nat → Prop) (w : World) (h : StAt w P g s) (hs : s.self ≠ 0) (hl : s.frozen.length ≤ 1000000) : Calls Tryz.prog 147 #[ptrV g] w fun e w' => GotOwn RecR w.heap.size 46 (fun k => w.heap.size ≤ k ∨ P k) s.frozen e w' ∧ Below w.heap.size w w' := by
 obtain ⟨v, hB, hI⟩ := h
 have b0 : w.cell? ⟨g, 0, none⟩ = some (.int .i64 s.self) := hB.cell 0
 have b4 : w.cell? ⟨g, 9, none⟩ = some v.frozen := hB.cell 9
 have C1 := gone_any g s.self w b0 hs
 obtain ⟨A, c, hv, hc1, hc2, hrow⟩ := hI.frozen
 have hvl : v.frozen = .slice A s.frozen.length c := by injection hv
 rw [hvl] at b4
 have C2 := clone_Rec A c s.frozen P w hrow (by omega)
 unfold GotOwn at C2
 clear hB hI hv hvl hrow hc1 hc2 hl b0
 unfold ptrV at C1 ⊢
 go_enter Tryz.func147, Tryz.ntmps147
 go_wp2_with fail
 refine C1.mono ?_
 clear C1
 rintro e w' ⟨rfl, rfl⟩
 go_wp2_with fail
 refine C2.mono ?_
 clear C2 b4
 rintro e w' ⟨⟨v2, rfl, hv2⟩, hb2⟩
 have HV := jh (ja hv2 hb2)
 obtain ⟨A2, c2, rfl, _⟩ := hv2.form
 clear hv2 hb2
 go_wp2_with fail
 go_ret
 exact ⟨⟨_, rfl, HV.out.1⟩, HV.out.2⟩
end Go.Proofs.YtcmjgghkmdbphaaGreatDoor
