/- state.Held of any state: what is held, in some order. Stamps in their order: the greatest and the least of some. The clock: what it tells and takes in, walked. part: what is held of a transaction; plans that answer. part: plans that answer. -/
import Derived.Test.YtcmjgghkmdbphaaGreatDoorT19
import Derived.Test.YtcmjgghkmdbphaaGreatDoorT16
import Derived.Test.YtcmjgghkmdbphaaGreatDoorT01
import Derived.StillTailTactics
import Derived.Laws.ResultCell
import Derived.Test.YtcmjgghkmdbphaaGreatDoorT07
import Derived.Laws.StructEq
set_option maxRecDepth 20000
set_option maxHeartbeats 25600000
namespace Go.Proofs.YtcmjgghkmdbphaaGreatDoor
open Go.RowKit Go.Shelf Go.Sort
theorem OnlyD.cell {F : Nat → Prop} {wx : World} {p : Addr} {u : Value} (h : wx.cell? p = some u) (hF : ¬ F p.block) : ∀ d : Wd (Only F wx), d.w.cell? p = some u := fun d =>
 (World.cell?_of_block (w := wx) (d.ok.block p.block (lt_of_cell h) hF)).trans h
theorem txs_at {w : World} {B e : Nat} {v : Value} {ts : List Tx} (h : w.ownsRow B e 3 v ts.length (ts.flatMap Tx.cells)) {k : Nat} {t : Tx} (hk : ts[k]? = some t) :
 ∃ g c, v = .slice (some ⟨g, 0, none⟩) ts.length c ∧ B ≤ g ∧ g < w.heap.size ∧ w.cell? ⟨g, k * 3, none⟩ = some (.int .i64 t.node) ∧ w.cell? ⟨g, k * 3 + 1, none⟩ = some (.int .i64 t.life) ∧ w.cell? ⟨g, k * 3 + 2, none⟩ = some (.int .i64 t.num) := by
 have hkl := (List.getElem?_eq_some_iff.1 hk).1
 have hk2 := (List.getElem?_eq_some_iff.1 hk).2
 rcases h.2 with ⟨_, h0⟩ | ⟨g, cap, cur, rfl, hB, hg, hn, hc, hs, ht⟩
 ·omega
 ·have hgl := (Array.getElem?_eq_some_iff.1 hg).1
  have key : ∀ j, j < 3 → w.cell? ⟨g, k * 3 + j, none⟩ = t.cells[j]? := fun j hj => by
   have h1 : k * 3 + j < ts.length * 3 := by omega
   have h2 := flat_get ts (k * 3 + j) h1
   rw [show (k * 3 + j) / 3 = k by omega, show (k * 3 + j) % 3 = j by omega, getElem!_pos _ k hkl, hk2] at h2
   have h3 : (ts.flatMap Tx.cells)[k * 3 + j]? = cur[k * 3 + j]? := by
    rw [← ht, List.getElem?_take_of_lt (by first | exact h1 | (rw [flat_len]; exact h1)), Array.getElem?_toList]
   unfold World.cell?
   simp only [hg]
   rw [← h3, h2]
   match j, hj with
   | 0, _ => rfl
   | 1, _ => rfl
   | 2, _ => rfl
  exact ⟨g, cap, rfl, hB, hgl, key 0 (by decide), key 1 (by decide), key 2 (by decide)⟩
theorem held_info : (Tryz.prog.info? 192).map (fun i => (i.zero, i.size, i.bytes)) = some (some (.agg Held.zeros.toArray), 9, 112) := by kernel_rfl
def dftHeld : Held := ⟨⟨0, 0, 0⟩, ⟨⟨#[]⟩, []⟩, ⟨0, 0, 0⟩, []⟩
def heldsOf (s : St) (ts : List Tx) : List Held := ts.map fun t => (getA t s.held).getD dftHeld
theorem heldsOf_perm {s : St} (hn : (s.held.map (·.1)).Nodup) {ts : List Tx} (hp : ts.Perm (s.held.map (·.1))) : (heldsOf s ts).Perm (s.held.map (·.2)) := by
 refine (hp.map _).trans ?_
 rw [List.map_map]
 refine List.Perm.of_eq (List.map_congr_left fun p hp => ?_)
 show (getA p.1 s.held).getD dftHeld = p.2
 rw [getA_of_mem hn hp]; rfl
def GotHelds (s : St) (B : Nat) (e : Ending) (w' : World) : Prop := ∃ v hs, e = .returned v ∧ hs.Perm (s.held.map (·.2)) ∧ HeldR.Own w' B 192 (fun k => B ≤ k) v hs
theorem sheld_any (g : Nat) (s : St) (P : Nat → Prop) (w : World) (h : StAt w P g s) (hs : s.self ≠ 0) (hf : ∀ x ∈ s.held, HeldFit x.2) (hl : s.held.length ≤ 1000000) :
 Calls Tryz.prog 41 #[ptrV g] w fun e w' => GotHelds s w.heap.size e w' ∧ Below w.heap.size w w' := by
 by_cases h0 : s.held = []
 ·refine (heldNo_any g s P w h hs h0).mono ?_
  rintro e w' ⟨rfl, hb⟩
  exact ⟨⟨_, [], rfl, by rw [h0]; exact .nil, Rep.Own.nil_⟩, hb⟩
 obtain ⟨v, hB, hI⟩ := h
 have hnd := hI.held.1
 obtain ⟨LA, hMV, hLr, hll⟩ := hI.held.mapV
 have C1 := gone_any g s.self w (hB.cell 0) hs
 have b6 : w.cell? ⟨g, 6, none⟩ = some v.held := hB.cell 6
 have hLA : LA ≠ [] := fun e => h0 (by rw [hll, e]; rfl)
 obtain ⟨m, hv, hM⟩ : ∃ m, v.held = .map (some m) ∧ MapAt txE w m (LA.map fun p => (p.1, aggV p.2.2)) := by
  rcases hMV with ⟨_, e⟩ | h
  ·exact absurd (List.map_eq_nil_iff.1 e) hLA
  ·exact h
 rw [hv] at b6
 have C2 := keysH_any (some m) w
 have hb1 := (jb w.heap.size w).al (.cells #[.map (some m)] 172)
 have C3 := sortedH_any w.heap.size m _ (w.alloc (.cells #[.map (some m)] 172)) (by simp) ((Blk.new w 172 [.map (some m)]).cell 0) (hM.ext hb1) (by rw [List.length_map]; have := congrArg List.length hll; rw [List.length_map] at this; omega) (fun e => hLA (List.map_eq_nil_iff.1 e))
 have HV := jh (ja hB (ja hMV (ja hLr (ja hll (ja hnd (ja hf (ja hl (ja hb1 hv))))))))
 clear hB hI hMV hLr hll hnd hf hM hb1 h0 hLA hl hv
 unfold GotTxs at C3
 unfold ptrV at C1 ⊢
 go_enter Tryz.func41, Tryz.ntmps41
 go_wp2_with fail
 refine C1.mono ?_
 clear C1
 rintro e w' ⟨rfl, rfl⟩
 go_wp2_with fail
 refine C2.mono ?_
 clear C2 b6
 rintro e w1 ⟨rfl, rfl⟩
 go_wp2_with fail
 refine C3.mono ?_
 clear C3
 rintro e w2 ⟨⟨vt, ts, rfl, hpt, hrow⟩, hb2⟩
 have hpt : ts.Perm (s.held.map (·.1)) := hpt.trans (.of_eq (by rw [HV.out.2.2.2.1, List.map_map, List.map_map]; rfl))
 have htl : ts.length ≤ 1000000 := by have := hpt.length_eq; rw [List.length_map] at this; have := HV.out.2.2.2.2.2.2.1; omega
 have hz1 : (w.alloc (.cells #[.map (some m)] 172)).heap.size = w.heap.size + 1 := by simp
 have hw2 := HV.out.2.2.2.2.2.2.2.1.tr hb2
 obtain ⟨At, ct, rfl⟩ := own_form hrow
 have H2 := jh (ja hpt (ja hrow hw2))
 clear hpt hrow hw2 hb2
 go_wp2_with fail
 go_loopw [2, 14] (fun ov iv wr => ∃ k : Nat, k ≤ ts.length ∧ iv = .int .i64 k ∧ HeldR.Own wr w.heap.size 192 (fun q => w.heap.size ≤ q) ov (heldsOf s (ts.take k)) ∧ Below w2.heap.size w2 wr ∧ (∀ q, ov.ownBlock = some q → w2.heap.size ≤ q)) (fun _ iv _ => ts.length - (intOf iv).toNat)
 case atStart => exact ⟨0, Nat.zero_le _, rfl, by rw [List.take_zero]; exact Rep.Own.nil_, jb _ _, fun q e => by cases e⟩
 case round =>
  obtain ⟨k, hk, rfl, hown, hbl, hoff⟩ := hrel
  obtain ⟨Ao, co, rfl, _⟩ := hown.form
  by_cases hlt : k < ts.length
  ·have hlt' : (k : Int) < ts.length := by omega
   have hlk := jg hlt
   have hts : heldsOf s (ts.take (k + 1)) = heldsOf s (ts.take k) ++ [(getA ts[k] s.held).getD dftHeld] := by
    unfold heldsOf; rw [take_snoc ts k hlt, List.map_append]; rfl
   have hmem : ts[k] ∈ s.held.map (·.1) := H2.out.1.subset (List.getElem_mem hlt)
   obtain ⟨gt, cc, hvt, _, hgt, e0, e1, e2⟩ := txs_at (H2.out.2.1.ext_ hbl) hlk
   generalize ts[k] = t at *
   injection hvt with hA _ hcc
   subst hA hcc
   have hMVr : MapV wr v.held (LA.map fun p => (p.1, aggV p.2.2)) := HV.out.2.1.ext (H2.out.2.2.tr hbl)
   rcases held_of (fun p hp => HeldR.same (HV.out.2.2.1 p hp) (js (H2.out.2.2.tr hbl))) t with ⟨hg0, _⟩ | ⟨h, pA, pc, fA, fc, hgs, hq, k1, k2, k3, k4, k5⟩
   ·exfalso
    rw [← HV.out.2.2.2.1] at hg0
    exact (getA_none.1 hg0) hmem
   rw [← HV.out.2.2.2.1] at hgs
   rw [hgs, Option.getD_some] at hts
   have hfit : HeldFit h := HV.out.2.2.2.2.2.1 _ (getA_mem hgs)
   have hol : (heldsOf s (ts.take k)).length ≤ 1000000 := by unfold heldsOf; rw [List.length_map, List.length_take]; omega
   have y6 : wr.cell? ⟨g, 6, none⟩ = some v.held := (HV.out.1.ext (H2.out.2.2.tr hbl)).cell 6
   rw [HV.out.2.2.2.2.2.2.2.2] at y6
   have HO := jh (ja hown (ja hbl (ja hoff (ja hts (ja k1 (ja k2 (ja k3 (ja k4 (ja k5 hfit)))))))))
   have hMVr : MapV wr (.map (some m)) (LA.map fun p => (p.1, aggV p.2.2)) := by rw [← HV.out.2.2.2.2.2.2.2.2]; exact hMVr
   have HMX := jh hMVr
   clear hmem hlk hown hbl hoff hts k1 k2 k3 k4 k5 hfit hgs hMVr
   go_upto_region 6 with fail
   have hbx := (jb wr.heap.size wr).al (.cells #[.int .i64 t.node, .int .i64 t.life, .int .i64 t.num] 42)
   have BX := Blk.new wr 42 [.int .i64 t.node, .int .i64 t.life, .int .i64 t.num]
   have hzx : (wr.alloc (.cells #[.int .i64 t.node, .int .i64 t.life, .int .i64 t.num] 42)).heap.size = wr.heap.size + 1 := by simp
   have z6 : (wr.alloc (.cells #[.int .i64 t.node, .int .i64 t.life, .int .i64 t.num] 42)).cell? ⟨g, 6, none⟩ = some (.map (some m)) := by
    have := (HV.out.1.ext ((H2.out.2.2.tr HO.out.2.1).tr hbx)).cell 6
    rw [this, ← HV.out.2.2.2.2.2.2.2.2]; rfl
   generalize (wr.alloc (.cells #[.int .i64 t.node, .int .i64 t.life, .int .i64 t.num] 42)) = wx at *
   have hzr := HO.out.2.1.size
   have hz2 := H2.out.2.2.size
   have hgl := HV.out.1.lt
   have hml : m < w.heap.size := by
    rcases HV.out.2.1 with ⟨e, _⟩ | ⟨m', e, hM⟩
    ·rw [HV.out.2.2.2.2.2.2.2.2] at e; cases e
    ·rw [HV.out.2.2.2.2.2.2.2.2] at e
     injection e with e
     injection e with e
     rw [e]; exact hM.lt
   obtain ⟨F, hF⟩ : ∃ F : Nat → Prop, F = fun q => w2.heap.size ≤ q ∧ q ≠ wr.heap.size := ⟨_, rfl⟩
   have HF := jh hF
   have nF1 : ∀ q, q < w2.heap.size → ¬ F q := fun q h1 h2 => by rw [hF] at h2; have := h2.1; omega
   have nF2 : ¬ F wr.heap.size := fun h2 => by rw [hF] at h2; exact h2.2 rfl
   have z6 := OnlyD.cell (F := F) z6 (nF1 _ (by show g < _; omega))
   have x0 := OnlyD.cell (F := F) (BX.cell 0 : wx.cell? ⟨wr.heap.size, 0, none⟩ = some (.int .i64 t.node)) nF2
   have x1 := OnlyD.cell (F := F) (BX.cell 1 : wx.cell? ⟨wr.heap.size, 1, none⟩ = some (.int .i64 t.life)) nF2
   have x2 := OnlyD.cell (F := F) (BX.cell 2 : wx.cell? ⟨wr.heap.size, 2, none⟩ = some (.int .i64 t.num)) nF2
   have hMx := HMX.out.ext hbx
   clear hF
   have HMV := jh (fun (W : World) (hW : ∃ d : Wd (Only F wx), W = d.w) => (show MapV W (.map (some m)) (LA.map fun p => (p.1, aggV p.2.2)) from by
    obtain ⟨d, rfl⟩ := hW
    rcases hMx with ⟨e, _⟩ | ⟨m', e, hM⟩
    ·cases e
    ·injection e with e
     injection e with e
     subst e
     exact .inr ⟨_, rfl, hM.only d.ok (nF1 _ (by omega))⟩))
   have hlo : Only F wx wx.drew := Only.drew
   have HBX := jh hbx
   haveI : Nonempty (Wd (Only F wx)) := ⟨⟨wx, Only.refl _ _⟩⟩
   clear hbx BX y6 e0 e1 e2 hMx
   refine wp_region_mix (.seg [0, 1, 2, 3, 4, 5, 6] 7 (.seg [] 8 (.seg [] 9 (.leaf [10])))) (fun w' => ∃ d : Wd (Only F wx), w' = d.w) (by kernel_rfl) (by kernel_rfl) (fun _ _ d _ _ h => by cases d <;> exact h) (ClsW.mk (D := Only F wx) hlo) ?_
   unfold wpMix; simp only [pick, j1, j2, j3, j4]
   (repeat (show wpQuiet _ _ _ _ (_ :: _) _; first | (refine wpQuiet_lookup_v _ rfl (.tmp 22) (.tmp 23) 172 false rfl Tryz.underlying172 rfl HMV.out t rfl hq _ zero_held ?_; simp only [Bool.false_eq_true, if_false, Option.getD_some]; unfold Held.cellsV; go_simp) | go_big_quiet_step (fail))); refine qn ?_
   have CO := own_any h pA fA pc fc P wx.drew (((HO.out.2.2.2.2.2.2.2.1).2.2.same (js (HBX.out.drew)) HBX.out.drew.size)) (((HO.out.2.2.2.2.2.2.2.2.1).2.2.same (js (HBX.out.drew)) HBX.out.drew.size)) (by have := HO.out.2.2.2.2.2.2.2.2.2.few; omega) (fun p hp => by have := (HO.out.2.2.2.2.2.2.2.2.2.data p hp).1; omega) (by have := HO.out.2.2.2.2.2.2.2.2.2.firsts.1; omega)
   unfold GotHeld Held.cellsV at CO
   go_wp2_with fail
   refine CO.mono ?_
   clear CO
   rintro e w7 ⟨⟨qA, qc, uA, uc, rfl, hq7, hu7⟩, hb7'⟩
   have hb7 : Below wx.heap.size wx w7 := (jb wx.heap.size wx).drew.tr hb7'
   have hzd : wx.drew.heap.size = wx.heap.size := rfl
   have hz7 := hb7.size
   have HO7 := jh (HO.out.1.ext (HBX.out.tr hb7))
   have hH7 : HeldR.rep w7 (fun q => wx.heap.size ≤ q) (Held.cellsV h qA qc uA uc) h := held_rep.2 ⟨qA, qc, uA, uc, rfl, HO.out.2.2.2.2.1, HO.out.2.2.2.2.2.1, HO.out.2.2.2.2.2.2.1, hq7, hu7⟩
   have H7 := jh (ja hH7 hb7)
   have hO7 : Only F wx w7 := jo hb7
   have hO8 : Only F wx (w7.alloc (.cells (Held.cellsV h qA qc uA uc).toArray 192)) := jo (hb7.al _)
   unfold Held.cellsV at hO8
   clear hb7' hq7 hu7 hH7 hb7
   go_wp2_with fail
   (refine segw (D := Only F wx) (hO7) ?_; unfold wpMix; simp only [pick, j1, j2, j3, j4]; (repeat (show wpQuiet _ _ _ _ (_ :: _) _; go_big_quiet_step (fail))); refine qn ?_)
   go_wp2_with fail
   (refine segw (D := Only F wx) (hO8) ?_; unfold wpMix; simp only [pick, j1, j2, j3, j4]; (repeat (show wpQuiet _ _ _ _ (_ :: _) _; go_big_quiet_step (fail))); refine qn ?_)
   obtain ⟨i0, r1, r2, r3, r4⟩ := info_parts held_info
   refine wpList_append_new (R := HeldR) (cs := Held.cellsV h qA qc uA uc) w7 rfl (.tmp 18) (.tmp 26) _ rfl w.heap.size 192 i0 _ 112 Tryz.underlying83 r1 r2 r3 r4 rfl _ (heldsOf s (ts.take k)) (fun q => w.heap.size ≤ q) rfl HO7.out (fun _ h => h) rfl (fun q => wx.heap.size ≤ q) h H7.out.1 (fun q h1 h2 => ⟨by omega, fun e => by
    have h3 := (HO.out.1.lt q e.symm).2
    omega⟩) (by unfold maxLen; omega) (by omega) (by omega) ?_
   intro v8 w8 ho8 hg8 hat8 hne8 hb8'
   have hoff8 : ∀ q, (Value.slice Ao (heldsOf s (List.take k ts)).length co).ownBlock = some q → w2.heap.size ≤ q ∧ q < wr.heap.size := fun q e => ⟨HO.out.2.2.1 q e, (HO.out.1.lt q e).2⟩
   have hbr : Below w2.heap.size w2 w7 := HO.out.2.1.tr (HBX.out.tr H7.out.2)
   have hb9 : Below w2.heap.size w2 w8 := ⟨hg8.os.trans hbr.os, hg8.tape.trans hbr.tape, hg8.output.trans hbr.output, Nat.le_trans hbr.size hg8.size, fun q hq => (hg8.block q (by omega) (fun e => by have := (hoff8 q e.symm).1; omega)).trans (hbr.block q hq)⟩
   have hO9 : Only F wx w8 := (jo H7.out.2).tr (Only.grown hg8 fun q e => by
    rw [HF.out]; have := hoff8 q e; exact ⟨this.1, by omega⟩)
   obtain ⟨A8, c8, rfl, _⟩ := ho8.form
   have hl8 : (heldsOf s (List.take k ts) ++ [h]).length = (heldsOf s (List.take k ts)).length + 1 := by simp
   rw [hl8] at ho8 hat8 ⊢
   have H8 := jh (ja ho8 (ja hb9 hat8))
   clear hl8
   clear ho8 hg8 hne8 hb8' hb9 hoff8 hbr r1 r2 r3 r4
   go_simp
   (refine segw (D := Only F wx) (hO9) ?_; unfold wpMix; simp only [pick, j1, j2, j3, j4]; (repeat (show wpQuiet _ _ _ _ (_ :: _) _; go_big_quiet_step (fail))); refine qn ?_)
   clear z6 x0 x1 x2 hO7 hO8 hO9 hlo
   go_wp2_with fail
   go_round
   case rel => exact ⟨k + 1, by omega, by go_num, by rw [HO.out.2.2.2.1]; exact H8.out.1, H8.out.2.1, fun q e => by
    rcases H8.out.2.2 with h | h
    ·rw [h] at e; exact HO.out.2.2.1 q e
    ·rw [h] at e; injection e with e; omega⟩
   case measure => simp [intOf]; omega
  ·have hkn : k = ts.length := by omega
   subst hkn
   rw [List.take_length] at hown ⊢
   have HO := jh (ja hown hbl)
   clear hown hbl hoff
   go_wp2_with fail
   go_ret
   exact ⟨⟨_, _, rfl, heldsOf_perm HV.out.2.2.2.2.1 H2.out.1, HO.out.1⟩, H2.out.2.2.tr HO.out.2⟩
end Go.Proofs.YtcmjgghkmdbphaaGreatDoor
namespace Go.Proofs.YtcmjgghkmdbphaaGreatDoor
open Go.RowKit
attribute [local go_sem] Stamp.cells
def stOrd (a b : Stamp) : Int := orI [cmpI a.wall b.wall, cmpI a.logic b.logic, cmpI a.node b.node]
theorem stOr3_any (x y z : Int) (b c : Nat) (w : World) (h0 : w.cell? ⟨b, 0, none⟩ = some (.int .i64 x)) (h1 : w.cell? ⟨b, 1, none⟩ = some (.int .i64 y)) (h2 : w.cell? ⟨b, 2, none⟩ = some (.int .i64 z)) :
 Calls Tryz.prog 224 #[.slice (some ⟨b, 0, none⟩) 3 c] w fun e w' => e = .returned (.int .i64 (orI [x, y, z])) ∧ w = w' := by
 refine or_any [x, y, z] b c w (by simp) ?_
 intro k v hk
 match k, hk with
 | 0, hk => simp at hk; subst hk; exact h0
 | 1, hk => simp at hk; subst hk; exact h1
 | 2, hk => simp at hk; subst hk; exact h2
theorem stOrder_any (a b : Stamp) (w : World) : Calls Tryz.prog 293 #[.agg #[.int .i64 a.wall, .int .i64 a.logic, .int .i64 a.node], .agg #[.int .i64 b.wall, .int .i64 b.logic, .int .i64 b.node]] w fun e w' => e = .returned (.int .i64 (stOrd a b)) ∧ Below w.heap.size w w' := by
 go_enter Tryz.func293, Tryz.ntmps293
 go_wp2_with fail
 go_region_held3 (fun w' => w'.cell? ⟨w.heap.size, 0, none⟩ = some (.int .i64 a.wall) ∧ w'.cell? ⟨w.heap.size, 1, none⟩ = some (.int .i64 a.logic) ∧ w'.cell? ⟨w.heap.size, 2, none⟩ = some (.int .i64 a.node) ∧ w'.cell? ⟨w.heap.size + 1, 0, none⟩ = some (.int .i64 b.wall) ∧ w'.cell? ⟨w.heap.size + 1, 1, none⟩ = some (.int .i64 b.logic) ∧ w'.cell? ⟨w.heap.size + 1, 2, none⟩ = some (.int .i64 b.node)) (simp [go_sem, World.cell?_alloc_past])
  (first
   | (go_at_call 225; refine (cmp_any _ _ _).mono ?_; rintro e w' ⟨rfl, rfl⟩)
   | (go_at_call 224; refine (stOr3_any (cmpI a.wall b.wall) (cmpI a.logic b.logic) (cmpI a.node b.node) _ _ _ ?_ ?_ ?_).mono ?_; (simp [go_sem]); (simp [go_sem]); (simp [go_sem]); rintro e w' ⟨rfl, rfl⟩))
 go_wp2
 go_ret
 exact ⟨rfl, ((((jb _ _).al _).al _).al _).drew⟩
theorem stCmp_bd (x y : Int) : -1 ≤ cmpI x y ∧ cmpI x y ≤ 1 := by unfold cmpI; (repeat' split) <;> omega
theorem stOrd_bd (a b : Stamp) : -1 ≤ stOrd a b ∧ stOrd a b ≤ 1 := by
 have h1 := stCmp_bd a.wall b.wall
 have h2 := stCmp_bd a.logic b.logic
 have h3 := stCmp_bd a.node b.node
 unfold stOrd orI orI orI orI; (repeat' split) <;> omega
def pickI (way : Int) (s x : Stamp) : Stamp := if 0 < stOrd x s * way then x else s
def mostI (way : Int) : List Stamp → Stamp
 | [] => ⟨0, 0, 0⟩
 | x :: l => l.foldl (pickI way) x
theorem mostI_snoc (way : Int) (l : List Stamp) (x : Stamp) (h : 0 < l.length) : mostI way (l ++ [x]) = pickI way (mostI way l) x := by
 match l, h with
 | y :: l, _ => simp [mostI, List.foldl_append]
def SAt (w : World) (b o : Nat) (s : Stamp) : Prop := w.cell? ⟨b, o, none⟩ = some (.int .i64 s.wall) ∧ w.cell? ⟨b, o + 1, none⟩ = some (.int .i64 s.logic) ∧ w.cell? ⟨b, o + 2, none⟩ = some (.int .i64 s.node)
theorem SAt.below {w w' : World} {B b o : Nat} {s : Stamp} (h : SAt w b o s) (hb : Below B w w') (hB : b < B) : SAt w' b o s :=
 ⟨(hb.cell (p := ⟨b, _, none⟩) hB).trans h.1, (hb.cell (p := ⟨b, _, none⟩) hB).trans h.2.1, (hb.cell (p := ⟨b, _, none⟩) hB).trans h.2.2⟩
def MostRel (B : Nat) (way : Int) (xs : List Stamp) (w0 : World) (k : Nat) (w : World) : Prop :=
 Blk w B 40 (mostI way (xs.take k)).cells ∧ Below B w0 w
theorem pick_yes {way : Int} {s x : Stamp} (h : 0 < stOrd x s * way) : pickI way s x = x := if_pos h
theorem pick_no {way : Int} {s x : Stamp} (h : ¬ 0 < stOrd x s * way) : pickI way s x = s := if_neg h
theorem most_any (way : Int) (hw : way = 1 ∨ way = -1) (xs : List Stamp) (b c : Nat) (w : World) (hl : xs.length ≤ 1000) (hb : b < w.heap.size) (hc : ∀ k x, xs[k]? = some x → SAt w b (k * 3) x) :
 Calls Tryz.prog 239 #[.slice (some ⟨b, 0, none⟩) xs.length c, .int .i64 way] w fun e w' => e = .returned (.agg (mostI way xs).cells.toArray) ∧ Below w.heap.size w w' := by
 have HW := jh hw; clear hw
 have HC := jh hc; clear hc
 go_enter Tryz.func239, Tryz.ntmps239
 go_wp2
 go_loopw [9] (fun i wr => ∃ k : Nat, k ≤ xs.length ∧ i = .int .i64 k ∧ MostRel w.heap.size way xs w k wr) (fun i _ => xs.length - (intOf i).toNat)
 case atStart => exact ⟨0, Nat.zero_le _, rfl, Blk.new _ _ _, (jb _ _).al _⟩
 case round =>
  obtain ⟨k, hk, rfl, hB, hbl⟩ := hrel
  have hsz := hB.lt
  have s0 := hB.cell 0
  have s1 := hB.cell 1
  have s2 := hB.cell 2
  have hf := hB.frozen
  have f0 := hf 0
  have f1 := hf 1
  have f2 := hf 2
  simp only [Stamp.cells, List.getElem?_cons_zero, List.getElem?_cons_succ] at s0 s1 s2
  clear hf
  by_cases hlt : k < xs.length
  ·obtain ⟨x0, x1, x2⟩ := (HC.out k xs[k] (jg hlt)).below hbl hb
   by_cases hz : k = 0
   ·subst hz
    go_wp2
    go_round
    case rel =>
     refine ⟨1, by omega, by go_num, Blk.to (by repeat (with_reducible first | exact hB | apply Blk.alloc | apply Blk.set_)) ?_, by repeat (with_reducible first | exact hbl | refine Below.al ?_ _ | refine Below.st ?_ (Nat.le_refl _) _)⟩
     rw [take_snoc _ _ hlt]; rfl
    case measure => simp [intOf]; omega
   ·have e0 : ((k : Int) == 0) = false := by simp; omega
    have hwp : wrap64 (stOrd xs[k] (mostI way (xs.take k)) * way) = stOrd xs[k] (mostI way (xs.take k)) * way := by
     obtain ⟨bd1, bd2⟩ := stOrd_bd xs[k] (mostI way (xs.take k))
     refine wrap_in _ ?_; rcases HW.out with rfl | rfl <;> omega
    go_wp2_with (go_at_call 293; refine (stOrder_any xs[k] (mostI way (xs.take k)) _).mono ?_; rintro e w' ⟨rfl, hbb⟩; have hB' := (hB.alloc _).ext hbb; have hX' := (Blk.new wr 40 xs[k].cells).ext hbb; have t0 := hX'.cell 0; have t1 := hX'.cell 1; have t2 := hX'.cell 2; simp only [Stamp.cells, List.getElem?_cons_zero, List.getElem?_cons_succ] at t0 t1 t2; have u0 := hB'.cell 0; have u1 := hB'.cell 1; have u2 := hB'.cell 2; simp only [Stamp.cells, List.getElem?_cons_zero, List.getElem?_cons_succ] at u0 u1 u2; have g0 := hB'.frozen 0; have g1 := hB'.frozen 1; have g2 := hB'.frozen 2)
    ·go_round
     case rel =>
      have hy : 0 < stOrd xs[k] (mostI way (xs.take k)) * way := by assumption
      refine ⟨k + 1, by omega, by go_num, (((hB'.set_ 0 _).set_ 1 _).set_ 2 _).to ?_, ((((hbl.al _).tr hbb).st (Nat.le_refl _) _).st (Nat.le_refl _) _).st (Nat.le_refl _) _⟩
      rw [take_snoc _ _ hlt, mostI_snoc _ _ _ (by simp; omega), pick_yes hy]; rfl
     case measure => simp [intOf]; omega
    ·go_round
     case rel =>
      have hy : ¬ 0 < stOrd xs[k] (mostI way (xs.take k)) * way := by omega
      refine ⟨k + 1, by omega, by go_num, hB'.to ?_, (hbl.al _).tr hbb⟩
      rw [take_snoc _ _ hlt, mostI_snoc _ _ _ (by simp; omega), pick_no hy]
     case measure => simp [intOf]; omega
  ·go_wp2
   have hk' : k = xs.length := by omega
   subst hk'
   exact bodyPost_blk (t := 40) (cs := (mostI way xs).cells) rfl (Blk.to (by repeat (with_reducible first | exact hB | apply Blk.alloc | apply Blk.set_)) (by rw [List.take_length]; rfl)) rfl Tryz.underlying40 rfl (by kernel_rfl) rfl
    ⟨rfl, by repeat (with_reducible first | exact hbl | refine Below.al ?_ _ | refine Below.st ?_ (Nat.le_refl _) _)⟩
theorem SAt.at2 {w : World} {b : Nat} {x y : Stamp} (h0 : SAt w b 0 x) (h1 : SAt w b 3 y) : ∀ k z, [x, y][k]? = some z → SAt w b (k * 3) z := by
 intro k z hk
 match k, hk with
 | 0, hk => simp at hk; subst hk; exact h0
 | 1, hk => simp at hk; subst hk; exact h1
def maxS (a b : Stamp) : Stamp := mostI 1 [a, b]
theorem stampMax_any (x y : Stamp) (b c : Nat) (w : World) (hb : b < w.heap.size) (h0 : SAt w b 0 x) (h1 : SAt w b 3 y) :
 Calls Tryz.prog 238 #[.slice (some ⟨b, 0, none⟩) 2 c] w fun e w' => e = .returned (.agg (maxS x y).cells.toArray) ∧ Below w.heap.size w w' := by
 have H0 := h0.below ((jb w.heap.size w).al (.cells #[.int .i64 0, .int .i64 0, .int .i64 0] 40)) hb
 have H1 := h1.below ((jb w.heap.size w).al (.cells #[.int .i64 0, .int .i64 0, .int .i64 0] 40)) hb
 have HH := jh (ja H0 H1); clear H0 H1 h0 h1
 go_enter Tryz.func238, Tryz.ntmps238
 go_wp2_with fail
 have C := most_any 1 (Or.inl rfl) [x, y] b c _ (by simp) (by simp; omega) (HH.out.1.at2 HH.out.2)
 refine C.mono ?_
 clear C
 rintro e w' ⟨rfl, hbb⟩
 have hB' := (Blk.new w 40 (Stamp.cells ⟨0, 0, 0⟩)).ext hbb
 have t0 := hB'.cell
 have t1 := hB'.frozen
 go_wp2
 exact bodyPost_blk (t := 40) (cs := (maxS x y).cells) rfl (Blk.to (by repeat (with_reducible first | exact hB' | apply Blk.alloc | apply Blk.set_)) (by rfl)) rfl Tryz.underlying40 rfl (by kernel_rfl) rfl
  ⟨rfl, by repeat (with_reducible first | exact ((jb _ _).al _).tr hbb | refine Below.al ?_ _ | refine Below.drew ?_ | refine Below.st ?_ (Nat.le_refl _) _ | apply Below.st1)⟩
end Go.Proofs.YtcmjgghkmdbphaaGreatDoor
namespace Go.Proofs.YtcmjgghkmdbphaaGreatDoor
open Go.RowKit
structure Clk where
 reading : Int
 last : Stamp
def Clk.cells (c : Clk) : List Value := [.int .i64 c.reading, .int .i64 c.last.wall, .int .i64 c.last.logic, .int .i64 c.last.node]
def CkAt (w : World) (g : Nat) (c : Clk) : Prop := Blk w g 232 c.cells
structure Clk.Ok (c : Clk) : Prop where
 node : 1 ≤ c.last.node ∧ c.last.node ≤ 5
 wall : 0 ≤ c.last.wall ∧ c.last.wall ≤ 1125899906842624
 logic : 0 ≤ c.last.logic ∧ c.last.logic ≤ 65535
 reading : 0 ≤ c.reading ∧ c.reading ≤ 1125899906842624
def nextC (c : Clk) : Stamp := if c.last.wall < c.reading then ⟨c.reading, 0, c.last.node⟩ else ⟨c.last.wall, c.last.logic + 1, c.last.node⟩
def tickC (c : Clk) : Clk × Stamp × Int := if 65536 ≤ (nextC c).logic then (c, ⟨0, 0, 0⟩, 7) else ({ c with last := nextC c }, nextC c, 0)
def mergeC (c : Clk) (s : Stamp) : Clk × Int :=
 if soundB s = false then (c, 1)
 else if c.last.wall < s.wall ∧ 1000 < s.wall - c.reading then (c, 6)
 else ({ c with last := maxS c.last { s with node := c.last.node } }, 0)
theorem clkNew_any (node floor : Int) (w : World) (h : (1 ≤ node ∧ node ≤ 5) ∧ 0 ≤ floor ∧ floor ≤ 1125899906842624) :
 Calls Tryz.prog 57 #[.int .i64 node, .int .i64 floor] w fun e w' => e = .returned (.tuple #[.pointer (some ⟨w.heap.size, 0, none⟩), .int .i64 0]) ∧ CkAt w' w.heap.size ⟨0, ⟨floor, 0, node⟩⟩ ∧ w'.heap.size = w.heap.size + 1 ∧ Below w.heap.size w w' := by
 obtain ⟨⟨h1, h2⟩, h3, h4⟩ := h
 go_enter Tryz.func57, Tryz.ntmps57
 go_wp2
 go_ret2
 exact ⟨rfl, Blk.new _ _ _, by simp, (jb _ _).al _⟩
theorem clkGone_any (g : Nat) (c : Clk) (w : World) (hc : CkAt w g c) (hn : (c.last.node == 0) = false) :
 Calls Tryz.prog 148 #[.pointer (some ⟨g, 0, none⟩)] w fun e w' => e = .returned (.bool false) ∧ w = w' := by
 have c3 := hc.cell 3
 simp only [Clk.cells, List.getElem?_cons_zero, List.getElem?_cons_succ] at c3
 go_enter Tryz.func148, Tryz.ntmps148
 go_wp2
 go_ret
 exact ⟨rfl, rfl⟩
theorem clkNow_any (g : Nat) (c : Clk) (w : World) (hc : CkAt w g c) (hn : (c.last.node == 0) = false) :
 Calls Tryz.prog 64 #[.pointer (some ⟨g, 0, none⟩)] w fun e w' => e = .returned (.agg c.last.cells.toArray) ∧ Below w.heap.size w w' := by
 have hc1 : CkAt (w.alloc (.cells #[.int .i64 0, .int .i64 0, .int .i64 0] 40)) g c := Blk.alloc hc _
 have C := clkGone_any g c _ hc1 hn
 have c1 := hc.cell 1
 have c2 := hc.cell 2
 have c3 := hc.cell 3
 simp only [Clk.cells, List.getElem?_cons_zero, List.getElem?_cons_succ] at c1 c2 c3
 have hlt := hc.lt
 clear hc hc1
 go_enter Tryz.func64, Tryz.ntmps64
 go_wp2_with fail
 refine C.mono ?_
 clear C
 rintro e w' ⟨rfl, rfl⟩
 go_wp2_with fail
 exact bodyPost_blk (t := 40) (cs := c.last.cells) rfl (Blk.new _ _ _) rfl Tryz.underlying40 rfl (by kernel_rfl) rfl ⟨rfl, by repeat (with_reducible first | assumption | exact jb _ _ | refine Below.al ?_ _ | refine Below.drew ?_ | apply Below.st1)⟩
theorem clkTick_any (g : Nat) (c : Clk) (w : World) (hc : CkAt w g c) (hk : c.Ok) :
 Calls Tryz.prog 154 #[.pointer (some ⟨g, 0, none⟩)] w fun e w' => e = .returned (.tuple #[.agg (tickC c).2.1.cells.toArray, .int .i64 (tickC c).2.2]) ∧ CkAt w' g (tickC c).1 ∧ Only (· = g) w w' := by
 have hc1 : CkAt (w.alloc (.cells #[.int .i64 0, .int .i64 0, .int .i64 0] 40)) g c := Blk.alloc hc _
 have hn : (c.last.node == 0) = false := by rw [beq_eq_false_iff_ne]; have := hk.node; omega
 have C := clkGone_any g c _ hc1 hn
 have c0 := hc.cell 0
 have c1 := hc.cell 1
 have c2 := hc.cell 2
 have c3 := hc.cell 3
 simp only [Clk.cells, List.getElem?_cons_zero, List.getElem?_cons_succ] at c0 c1 c2 c3
 have hlt := hc.lt
 have hk1 := hk.wall
 have hk2 := hk.logic
 have hwl : wrap64 (c.last.logic + 1) = c.last.logic + 1 := wrap_in _ (by omega)
 have B0 : Blk ((w.alloc (.cells #[.int .i64 0, .int .i64 0, .int .i64 0] 40)).alloc (.cells #[.int .i64 c.last.wall, .int .i64 (c.last.logic + 1), .int .i64 c.last.node] 40)) w.heap.size 40 [.int .i64 0, .int .i64 0, .int .i64 0] := (Blk.new w 40 [.int .i64 0, .int .i64 0, .int .i64 0]).alloc _
 have B1 := Blk.new1 w (.cells #[.int .i64 0, .int .i64 0, .int .i64 0] 40) 40 [.int .i64 c.last.wall, .int .i64 (c.last.logic + 1), .int .i64 c.last.node]
 have B2 : CkAt ((w.alloc (.cells #[.int .i64 0, .int .i64 0, .int .i64 0] 40)).alloc (.cells #[.int .i64 c.last.wall, .int .i64 (c.last.logic + 1), .int .i64 c.last.node] 40)) g c := Blk.alloc hc1 _
 have hb2 := ((jb w.heap.size w).al (.cells #[.int .i64 0, .int .i64 0, .int .i64 0] 40)).al (.cells #[.int .i64 c.last.wall, .int .i64 (c.last.logic + 1), .int .i64 c.last.node] 40)
 have HB := jh (ja B0 (ja B1 (ja B2 hb2)))
 clear hc hc1 hn B0 B1 B2 hb2
 go_enter Tryz.func154, Tryz.ntmps154
 go_wp2_with fail
 refine C.mono ?_
 clear C
 rintro e w' ⟨rfl, rfl⟩
 go_upto_region 5 with fail
 clear c0 c1 c2 c3
 generalize ((w.alloc (.cells #[.int .i64 0, .int .i64 0, .int .i64 0] 40)).alloc (.cells #[.int .i64 c.last.wall, .int .i64 (c.last.logic + 1), .int .i64 c.last.node] 40)) = w2 at *
 have hz2 := HB.out.2.1.lt
 have c0 := HB.out.2.2.1.cell 0
 have c1 := HB.out.2.1.cell 0
 simp only [Clk.cells, List.getElem?_cons_zero] at c0 c1
 by_cases h : c.last.wall < c.reading
 ·have hT : tickC c = ({ c with last := ⟨c.reading, 0, c.last.node⟩ }, ⟨c.reading, 0, c.last.node⟩, 0) := by
   unfold tickC nextC; rw [if_pos h, if_neg (show ¬ (65536 : Int) ≤ 0 by decide)]
  have HT := jh hT
  clear hT
  go_quiet (fail)
  have BB := jh (ja (HB.out.1.drewN nq) (ja (HB.out.2.1.drewN nq) (ja (show CkAt (w2.drewN nq) g c from Blk.drewN HB.out.2.2.1 nq) (HB.out.2.2.2.drewN nq))))
  clear c0 c1 HB hz2
  generalize w2.drewN nq = w3 at *
  have hz3 := BB.out.2.1.lt
  have a0 := BB.out.1.cell 0
  have a1 := BB.out.1.cell 1
  have a2 := BB.out.1.cell 2
  have c0 := BB.out.2.2.1.cell 0
  have c1 := BB.out.2.2.1.cell 1
  have c2 := BB.out.2.2.1.cell 2
  have c3 := BB.out.2.2.1.cell 3
  have d0 := BB.out.2.1.cell 0
  have d1 := BB.out.2.1.cell 1
  have d2 := BB.out.2.1.cell 2
  simp only [Clk.cells, List.getElem?_cons_zero, List.getElem?_cons_succ] at a0 a1 a2 c0 c1 c2 c3 d0 d1 d2
  have f0 := BB.out.2.1.frozen
  have f1 := BB.out.2.2.1.frozen
  have f2 := BB.out.1.frozen
  go_wp2_with fail
  have HO1 := (jo (F := (· = g)) BB.out.2.2.2)
  have hz0 := BB.out.2.2.2.size
  refine bodyPost_ret (results_blk_tmp (t := 40) (cs := [.int .i64 c.reading, .int .i64 0, .int .i64 c.last.node]) rfl _
   (((((((((BB.out.1.far (by simp) _).far (by simp) _).far (by simp; omega) _).far (by simp; omega) _).far (by simp; omega) _).set_ 0 _).set_ 1 _).set_ 2 _).to rfl) rfl Tryz.underlying40 rfl (by kernel_rfl)) rfl ?_
  rw [HT.out]
  refine ⟨rfl, (((((((Blk.far (Blk.far (show Blk w3 g 232 c.cells from BB.out.2.2.1) (by simp; omega) _) (by simp; omega) _).set_ 1 _).set_ 2 _).set_ 3 _).far (by simp; omega) _).far (by simp; omega) _).far (by simp; omega) _).to rfl, ?_⟩
  refine Only.trans (F := (· = g)) (G := fun k => k = g ∨ w.heap.size ≤ k) HO1 ?_ (fun k hk h => by rcases h with h | h <;> first | exact h | omega)
  repeat (refine Only.tr ?_ (Only.set_ (by simp) _))
  exact Only.refl _ _
 ·have h' : decide (c.last.wall < c.reading) = false := jd h
  have HH := jh h
  clear h
  by_cases h2 : 65536 ≤ c.last.logic + 1
  ·have hT : tickC c = (c, ⟨0, 0, 0⟩, 7) := by
    unfold tickC nextC; rw [if_neg HH.out, if_pos h2]
   have HT := jh hT
   clear hT
   go_quiet (fail)
   have BB := jh (ja (HB.out.1.drewN nq) (ja (HB.out.2.1.drewN nq) (ja (show CkAt (w2.drewN nq) g c from Blk.drewN HB.out.2.2.1 nq) (HB.out.2.2.2.drewN nq))))
   clear c0 c1 HB hz2
   generalize w2.drewN nq = w3 at *
   have hz3 := BB.out.2.1.lt
   have a0 := BB.out.1.cell 0
   have a1 := BB.out.1.cell 1
   have a2 := BB.out.1.cell 2
   have c0 := BB.out.2.2.1.cell 0
   have c1 := BB.out.2.2.1.cell 1
   have c2 := BB.out.2.2.1.cell 2
   have c3 := BB.out.2.2.1.cell 3
   have d0 := BB.out.2.1.cell 0
   have d1 := BB.out.2.1.cell 1
   have d2 := BB.out.2.1.cell 2
   simp only [Clk.cells, List.getElem?_cons_zero, List.getElem?_cons_succ] at a0 a1 a2 c0 c1 c2 c3 d0 d1 d2
   have f0 := BB.out.2.1.frozen
   have f1 := BB.out.2.2.1.frozen
   have f2 := BB.out.1.frozen
   go_wp2_with fail
   have HO1 := (jo (F := (· = g)) BB.out.2.2.2)
   have hz0 := BB.out.2.2.2.size
   refine bodyPost_ret (results_blk_tmp (t := 40) (cs := [.int .i64 0, .int .i64 0, .int .i64 0]) rfl _ ((((BB.out.1.set_ 0 _).set_ 1 _).set_ 2 _).to rfl) rfl Tryz.underlying40 rfl (by kernel_rfl)) rfl ?_
   rw [HT.out]
   refine ⟨rfl, ((((show Blk w3 g 232 c.cells from BB.out.2.2.1).far (by simp; omega) _).far (by simp; omega) _).far (by simp; omega) _).to rfl, ?_⟩
   refine Only.trans (F := (· = g)) (G := fun k => k = g ∨ w.heap.size ≤ k) HO1 ?_ (fun k hk h => by rcases h with h | h <;> first | exact h | omega)
   repeat (refine Only.tr ?_ (Only.set_ (by simp) _))
   exact Only.refl _ _
  ·have hT : tickC c = ({ c with last := ⟨c.last.wall, c.last.logic + 1, c.last.node⟩ }, ⟨c.last.wall, c.last.logic + 1, c.last.node⟩, 0) := by
    unfold tickC nextC; rw [if_neg HH.out, if_neg h2]
   have HT := jh hT
   have h2' : decide (65536 ≤ c.last.logic + 1) = false := jd h2
   clear hT h2
   go_quiet (fail)
   have BB := jh (ja (HB.out.1.drewN nq) (ja (HB.out.2.1.drewN nq) (ja (show CkAt (w2.drewN nq) g c from Blk.drewN HB.out.2.2.1 nq) (HB.out.2.2.2.drewN nq))))
   clear c0 c1 HB hz2
   generalize w2.drewN nq = w3 at *
   have hz3 := BB.out.2.1.lt
   have a0 := BB.out.1.cell 0
   have a1 := BB.out.1.cell 1
   have a2 := BB.out.1.cell 2
   have c0 := BB.out.2.2.1.cell 0
   have c1 := BB.out.2.2.1.cell 1
   have c2 := BB.out.2.2.1.cell 2
   have c3 := BB.out.2.2.1.cell 3
   have d0 := BB.out.2.1.cell 0
   have d1 := BB.out.2.1.cell 1
   have d2 := BB.out.2.1.cell 2
   simp only [Clk.cells, List.getElem?_cons_zero, List.getElem?_cons_succ] at a0 a1 a2 c0 c1 c2 c3 d0 d1 d2
   have f0 := BB.out.2.1.frozen
   have f1 := BB.out.2.2.1.frozen
   have f2 := BB.out.1.frozen
   go_wp2_with fail
   have HO1 := (jo (F := (· = g)) BB.out.2.2.2)
   have hz0 := BB.out.2.2.2.size
   refine bodyPost_ret (results_blk_tmp (t := 40) (cs := [.int .i64 c.last.wall, .int .i64 (c.last.logic + 1), .int .i64 c.last.node]) rfl _
    (((((((BB.out.1.far (by simp; omega) _).far (by simp; omega) _).far (by simp; omega) _).set_ 0 _).set_ 1 _).set_ 2 _).to rfl) rfl Tryz.underlying40 rfl (by kernel_rfl)) rfl ?_
   rw [HT.out]
   refine ⟨rfl, (((((((show Blk w3 g 232 c.cells from BB.out.2.2.1).set_ 1 _).set_ 2 _).set_ 3 _).far (by simp; omega) _).far (by simp; omega) _).far (by simp; omega) _).to rfl, ?_⟩
   refine Only.trans (F := (· = g)) (G := fun k => k = g ∨ w.heap.size ≤ k) HO1 ?_ (fun k hk h => by rcases h with h | h <;> first | exact h | omega)
   repeat (refine Only.tr ?_ (Only.set_ (by simp) _))
   exact Only.refl _ _
theorem clkMerge_any (g : Nat) (c : Clk) (s : Stamp) (w : World) (hc : CkAt w g c) (hk : c.Ok) :
 Calls Tryz.prog 153 #[.pointer (some ⟨g, 0, none⟩), .agg #[.int .i64 s.wall, .int .i64 s.logic, .int .i64 s.node]] w fun e w' => e = .returned (.int .i64 (mergeC c s).2) ∧ CkAt w' g (mergeC c s).1 ∧ Only (· = g) w w' := by
 have hgw : g < w.heap.size := hc.lt
 have hbx := (jb w.heap.size w).al (.cells #[.int .i64 s.wall, .int .i64 s.logic, .int .i64 s.node] 40)
 have hc1 : CkAt (w.alloc (.cells #[.int .i64 s.wall, .int .i64 s.logic, .int .i64 s.node] 40)) g c := Blk.alloc hc _
 have hS1 := Blk.new w 40 [.int .i64 s.wall, .int .i64 s.logic, .int .i64 s.node]
 have hn : (c.last.node == 0) = false := by rw [beq_eq_false_iff_ne]; have := hk.node; omega
 have C := clkGone_any g c _ hc1 hn
 have C2 := sound_any s (w.alloc (.cells #[.int .i64 s.wall, .int .i64 s.logic, .int .i64 s.node] 40))
 unfold Stamp.val at C2
 have HC := jh (ja hc1 (ja hS1 hbx))
 clear hc hc1 hn hS1 hbx
 go_enter Tryz.func153, Tryz.ntmps153
 go_wp2_with fail
 refine C.mono ?_
 clear C
 rintro e w' ⟨rfl, rfl⟩
 go_wp2_with fail
 refine C2.mono ?_
 clear C2
 rintro e w1 ⟨rfl, hb1⟩
 have H1 := jh (ja (show CkAt w1 g c from Blk.ext HC.out.1 hb1) (ja (HC.out.2.1.ext hb1) (HC.out.2.2.tr hb1)))
 clear HC hb1
 cases hs : soundB s
 ·have HS := jh (show mergeC c s = (c, 1) from by unfold mergeC; rw [if_pos hs])
  clear hs
  go_wp2_with fail
  go_ret
  rw [HS.out]
  exact ⟨rfl, H1.out.1, jo H1.out.2.2⟩
 have hsw : 0 ≤ s.wall ∧ s.wall ≤ 1125899906842624 := by unfold soundB withinB at hs; simp at hs; omega
 have HSB := jh hs
 clear hs
 obtain ⟨hs1, hs2⟩ := hsw
 obtain ⟨hr1, hr2⟩ := hk.reading
 have hwr : wrap64 (s.wall - c.reading) = s.wall - c.reading := wrap_in _ (by omega)
 have hlt := H1.out.1.lt
 have hlt2 := H1.out.2.1.lt
 have c0 := H1.out.1.cell 0
 have c1 := H1.out.1.cell 1
 have c3 := H1.out.1.cell 3
 have s0 := H1.out.2.1.cell 0
 have s2 := H1.out.2.1.cell 2
 simp only [Clk.cells, List.getElem?_cons_zero, List.getElem?_cons_succ] at c0 c1 c3 s0 s2
 have f0 := H1.out.2.1.frozen 2
 have hcase : (c.last.wall < s.wall ∧ 1000 < s.wall - c.reading) ∨ (c.last.wall < s.wall ∧ decide (1000 < s.wall - c.reading) = false) ∨ decide (c.last.wall < s.wall) = false := by
  by_cases h1 : c.last.wall < s.wall
  ·by_cases h2 : 1000 < s.wall - c.reading
   ·exact .inl ⟨h1, h2⟩
   ·exact .inr (.inl ⟨h1, jd h2⟩)
  ·exact .inr (.inr (jd h1))
 rcases hcase with ⟨h1, h2⟩ | ⟨h1, h2⟩ | h1
 ·have HS := jh (show mergeC c s = (c, 6) from by unfold mergeC; rw [if_neg (by rw [HSB.out]; simp), if_pos ⟨h1, h2⟩])
  go_wp2_with fail
  go_quiet (fail)
  go_wp2_with fail
  go_ret
  rw [HS.out]
  exact ⟨rfl, Blk.drewN H1.out.1 _, jo (H1.out.2.2.drewN _)⟩
 all_goals
  have HS := jh (show mergeC c s = ({ c with last := maxS c.last { s with node := c.last.node } }, 0) from by
   unfold mergeC; rw [if_neg (by rw [HSB.out]; simp), if_neg (by rintro ⟨a, b⟩; first | (simp at h1; omega) | (simp at h2; omega))])
  go_wp2_with fail
  go_quiet (fail)
  have c3' : (w1.drewN nq).cell? ⟨g, 3, none⟩ = some (.int .i64 c.last.node) := c3
  have s2' : (w1.drewN nq).cell? ⟨w.heap.size, 2, none⟩ = some (.int .i64 s.node) := s2
  have f0' : (w1.drewN nq).frozen? ⟨w.heap.size, 2, none⟩ = false := f0
  have H2 := jh (ja (show CkAt (w1.drewN nq) g c from Blk.drewN H1.out.1 nq) (ja (H1.out.2.1.drewN nq) (H1.out.2.2.drewN nq)))
  clear c0 c1 c3 s0 s2 f0 H1 hlt2
  generalize w1.drewN nq = w2 at *
  have hlt2 := H2.out.2.1.lt
  go_upto_region 6 with fail
  have H3 := jh (ja (show CkAt (w2.setCell ⟨w.heap.size, 2, none⟩ (.int .i64 c.last.node)) g c from Blk.far H2.out.1 (by simp; omega) _) (ja ((H2.out.2.1.set_ 2 (.int .i64 c.last.node)).to (cs' := [.int .i64 s.wall, .int .i64 s.logic, .int .i64 c.last.node]) rfl) (H2.out.2.2.st (p := ⟨w.heap.size, 2, none⟩) (Nat.le_refl _) (.int .i64 c.last.node))))
  clear c3' s2' f0' H2 hlt2
  generalize w2.setCell ⟨w.heap.size, 2, none⟩ (.int .i64 c.last.node) = w3 at *
  have hlt2 := H3.out.2.1.lt
  have y1 := On.cell (H3.out.1.cell 1 : w3.cell? ⟨g, 1, none⟩ = some (.int .i64 c.last.wall))
  have y2 := On.cell (H3.out.1.cell 2 : w3.cell? ⟨g, 2, none⟩ = some (.int .i64 c.last.logic))
  have y3 := On.cell (H3.out.1.cell 3 : w3.cell? ⟨g, 3, none⟩ = some (.int .i64 c.last.node))
  have z0 := On.cell (H3.out.2.1.cell 0 : w3.cell? ⟨w.heap.size, 0, none⟩ = some (.int .i64 s.wall))
  have z1 := On.cell (H3.out.2.1.cell 1 : w3.cell? ⟨w.heap.size, 1, none⟩ = some (.int .i64 s.logic))
  have z2 := On.cell (H3.out.2.1.cell 2 : w3.cell? ⟨w.heap.size, 2, none⟩ = some (.int .i64 c.last.node))
  refine wp_region_mix (.seg [0, 1, 2, 3, 4, 5] 6 (.seg [] 7 (.seg [] 8 (.last [9] 10)))) (fun w' => ∃ d : Wd (On w3), w' = d.w) (by kernel_rfl) (by kernel_rfl) (fun _ _ d _ _ h => by cases d <;> exact h) (ClsW.mk (jb _ _).drew) ?_
  unfold wpMix; simp only [pick, j1, j2, j3, j4]
  (repeat (show wpQuiet _ _ _ _ (_ :: _) _; go_big_quiet_step (fail))); refine qn ?_
  have B := (Blk.new w3 40 [.int .i64 c.last.wall, .int .i64 c.last.logic, .int .i64 c.last.node, .int .i64 s.wall, .int .i64 s.logic, .int .i64 c.last.node]).drew
  have hbn := ((jb w3.heap.size w3).al (.cells #[.int .i64 c.last.wall, .int .i64 c.last.logic, .int .i64 c.last.node, .int .i64 s.wall, .int .i64 s.logic, .int .i64 c.last.node] 40)).drew
  have CM := stampMax_any c.last { s with node := c.last.node } w3.heap.size 2 _ B.lt ⟨B.cell 0, B.cell 1, B.cell 2⟩ ⟨B.cell 3, B.cell 4, B.cell 5⟩
  have HBN := jh hbn
  clear B hbn
  go_wp2_with fail
  (refine segw (D := On w3) (by unfold On; repeat (with_reducible first | assumption | exact jb _ _ | refine Below.al ?_ _ | refine Below.drew ?_ | apply Below.st1)) ?_; unfold wpMix; simp only [pick, j1, j2, j3, j4]; (repeat (show wpQuiet _ _ _ _ (_ :: _) _; go_big_quiet_step (fail))); refine qn ?_)
  go_wp2_with fail
  refine CM.mono ?_
  clear CM
  rintro e w4 ⟨rfl, hb4⟩
  have H4 := jh (HBN.out.tr hb4)
  have B4 : CkAt w4 g c := Blk.ext H3.out.1 H4.out
  have hlt4 := B4.lt
  have hb4' := H4.out
  clear hb4
  go_wp2_with fail
  (refine segw (D := On w3) (hb4') ?_; unfold wpMix; simp only [pick, j1, j2, j3, j4]; (repeat (show wpQuiet _ _ _ _ (_ :: _) _; go_big_quiet_step (fail))); refine qn ?_)
  go_wp2_with fail
  (refine segw (D := On w3) (hb4') ?_; unfold wpMix; simp only [pick, j1, j2, j3, j4]; (repeat (show wpQuiet _ _ _ _ (_ :: _) _; go_big_quiet_step (fail))); refine qn ?_)
  clear y1 y2 y3 z0 z1 z2 hb4'
  have c1 := B4.cell 1
  have c2 := B4.cell 2
  have c3 := B4.cell 3
  simp only [Clk.cells, List.getElem?_cons_zero, List.getElem?_cons_succ] at c1 c2 c3
  have f1 := B4.frozen
  have HB4 := jh B4
  clear B4
  generalize maxS c.last { s with node := c.last.node } = x at *
  unfold Stamp.cells
  go_wp2_with fail
  dsimp only [wpList, SegQ]
  go_wp2_with fail
  go_ret
  rw [HS.out]
  refine ⟨rfl, ((((show Blk w4 g 232 c.cells from HB4.out).set_ 1 _).set_ 2 _).set_ 3 _).to rfl, ?_⟩
  refine Only.trans (F := (· = g)) (G := (· = g)) (jo (H3.out.2.2.tr H4.out)) ?_ (fun k _ h => h)
  repeat (refine Only.tr ?_ (Only.set_ (by simp) _))
  exact Only.refl _ _
end Go.Proofs.YtcmjgghkmdbphaaGreatDoor
namespace Go.Proofs.YtcmjgghkmdbphaaGreatDoor
open Go.RowKit
def HeldOut (s : St) (t : Tx) (B : Nat) (e : Ending) (w' : World) : Prop := match getA t s.held with
 | none => e = .returned (.tuple #[.agg Held.zeros.toArray, .bool false])
 | some h => ∃ pA pc fA fc, e = .returned (.tuple #[.agg (h.cellsV pA pc fA fc).toArray, .bool true]) ∧ (h.firsts.length ≤ fc ∧ fc ≤ 9223372036854775807 ∧ IntR.Row w' (fun q => B ≤ q) fA h.firsts)
theorem held_none {s : St} {t : Tx} {hs : List Held} (hp : hs.Perm (s.held.map (·.2))) (hk : ∀ p ∈ s.held, p.2.tx = p.1) (h : ∀ x ∈ hs, x.tx ≠ t) : getA t s.held = none := by
 rw [getA_none]
 intro hm
 obtain ⟨p, hp1, hp2⟩ := List.mem_map.1 hm
 exact h p.2 (hp.symm.subset (List.mem_map_of_mem hp1)) ((hk p hp1).trans hp2)
theorem held_some {s : St} {x : Held} {hs : List Held} (hp : hs.Perm (s.held.map (·.2))) (hk : ∀ p ∈ s.held, p.2.tx = p.1) (hn : (s.held.map (·.1)).Nodup) (h : x ∈ hs) : getA x.tx s.held = some x := by
 obtain ⟨p, hp1, hp2⟩ := List.mem_map.1 (hp.subset h)
 rw [← hp2, hk p hp1]
 exact getA_of_mem hn hp1
theorem Rep.Row.only {α : Type} {R : Rep α} {w w' : World} {P F : Nat → Prop} {A : Option Addr} {l : List α} (h : R.Row w P A l) (hO : Only F w w') (hP : ∀ k, P k → ¬ F k) : R.Row w' P A l := h.same (Same.of_only hO hP) hO.size
theorem partHeld_any (g : Nat) (s : St) (t : Tx) (P : Nat → Prop) (w : World) (h : StAt w P g s) (hs : s.self ≠ 0) (hf : ∀ x ∈ s.held, HeldFit x.2) (hl : s.held.length ≤ 1000000) (hk : ∀ p ∈ s.held, p.2.tx = p.1) :
 Calls Tryz.prog 149 #[ptrV g, .agg #[.int .i64 t.node, .int .i64 t.life, .int .i64 t.num]] w fun e w' => HeldOut s t w.heap.size e w' ∧ Below w.heap.size w w' := by
 have hnd : (s.held.map (·.1)).Nodup := by obtain ⟨v, _, b⟩ := h; exact b.held.1
 have B0 := (Blk.new w 42 [.int .i64 t.node, .int .i64 t.life, .int .i64 t.num]).alloc (.cells Held.zeros.toArray 192)
 have B1 := Blk.new1 w (.cells #[.int .i64 t.node, .int .i64 t.life, .int .i64 t.num] 42) 192 Held.zeros
 have hb1 := ((jb w.heap.size w).al (.cells #[.int .i64 t.node, .int .i64 t.life, .int .i64 t.num] 42)).al (.cells Held.zeros.toArray 192)
 have hst1 : StAt ((w.alloc (.cells #[.int .i64 t.node, .int .i64 t.life, .int .i64 t.num] 42)).alloc (.cells Held.zeros.toArray 192)) P g s := by
  obtain ⟨v, a, b⟩ := h
  exact ⟨v, a.ext hb1, b.same (js hb1)⟩
 have C1 := sheld_any g s P _ hst1 hs hf hl
 unfold ptrV GotHelds at C1
 unfold ptrV
 have H1 := jh (ja B0 (ja B1 hb1))
 have HK := jh (ja hk (ja hnd hl))
 clear h hf hl hk hnd hst1 B0 B1 hb1
 unfold Held.zeros at C1 H1
 go_enter Tryz.func149, Tryz.ntmps149
 go_wp2_with fail
 refine C1.mono ?_
 clear C1
 rintro e w1 ⟨⟨v, l, rfl, hp, ho⟩, hb⟩
 obtain ⟨A, c, rfl, _⟩ := ho.form
 have hw1 := H1.out.2.2.tr hb
 have hz0 := hb.size
 have hrow : HeldR.Row w1 (fun q => w.heap.size + 2 ≤ q) A l := (ho.row (S := fun k => _ ≤ k) fun _ h => h).mono fun q hq _ => by have := hq; simp at this; omega
 have hl2 : l.length ≤ 1000000 := by have := hp.length_eq; rw [List.length_map] at this; have := HK.out.2.2; omega
 have H2 := jh (ja (H1.out.1.ext hb) (ja (H1.out.2.1.ext hb) (ja hw1 (ja hrow hp))))
 clear hb ho hrow hp hw1 H1
 go_wp2_with fail
 go_loopw [11] (fun iv wr => ∃ k : Nat, k ≤ l.length ∧ iv = .int .i64 k ∧ (∀ x ∈ l.take k, x.tx ≠ t) ∧ Below w1.heap.size w1 wr) (fun iv _ => l.length - (intOf iv).toNat)
 case atStart => exact ⟨0, Nat.zero_le _, rfl, by simp, jb _ _⟩
 case round =>
  obtain ⟨k, hk, rfl, hno, hbl⟩ := hrel
  have hzw := hbl.size
  have b0 := (H2.out.1.ext hbl)
  have b1 := (H2.out.2.1.ext hbl)
  have x0 := b0.cell 0
  have x1 := b0.cell 1
  have x2 := b0.cell 2
  have y0 := b1.cell
  have f1 := b1.frozen
  have hlt0 := b0.lt
  have hlt1 := b1.lt
  simp only [List.getElem?_cons_zero, List.getElem?_cons_succ] at x0 x1 x2
  have HB := jh (ja b0 (ja b1 (ja hno hbl)))
  clear b0 b1 hno hbl
  by_cases hlt : k < l.length
  ·have hlt' : (k : Int) < l.length := by omega
   have hlk := jg hlt
   have hmem := List.getElem_mem hlt
   have hts := take_snoc l k hlt
   obtain ⟨b, o, cs, rfl, _, hbw, hrep, hcs⟩ := (H2.out.2.2.2.1.ext HB.out.2.2.2).at_ hlk
   generalize l[k] = x at *
   obtain ⟨pA, pc, fA, fc, rfl, _, _, _, _, k5⟩ := held_rep.1 hrep
   unfold Held.cellsV at hcs
   have c0 := hcs 0 _ rfl
   have c1 := hcs 1 _ rfl
   have c2 := hcs 2 _ rfl
   have c3 := hcs 3 _ rfl
   have c4 := hcs 4 _ rfl
   have c5 := hcs 5 _ rfl
   have c6 := hcs 6 _ rfl
   have c7 := hcs 7 _ rfl
   have c8 := hcs 8 _ rfl
   have hsz : HeldR.size = 9 := rfl
   simp only [hsz, Nat.add_zero] at c0 c1 c2 c3 c4 c5 c6 c7 c8
   have HX := jh (ja hmem (ja hts k5))
   clear hlk hmem hts hrep hcs k5 hsz
   have hcase : x.tx = t ∨ (x.tx.node == t.node) = false ∨ ((x.tx.node == t.node) = true ∧ (x.tx.life == t.life) = false) ∨ ((x.tx.node == t.node) = true ∧ (x.tx.life == t.life) = true ∧ (x.tx.num == t.num) = false) := by
    obtain ⟨⟨a1, a2, a3⟩, _, _, _⟩ := x
    obtain ⟨b1, b2, b3⟩ := t
    simp
    omega
   rcases hcase with h | h | ⟨h, h'⟩ | ⟨h, h', h''⟩
   ·subst h
    go_wp2_with fail
    have key : ∀ W, Only (· = w.heap.size + 1) wr W → IntR.Row W (fun q => w.heap.size ≤ q) fA x.firsts := fun W hO => (Rep.Row.only HX.out.2.2.2.2 hO (fun q h1 e => by have h1' : w.heap.size + 2 ≤ q := h1; have e' : q = w.heap.size + 1 := e; omega)).mono (fun q h1 _ => by have h1' : w.heap.size + 2 ≤ q := h1; show w.heap.size ≤ q; omega)
    have hsome := held_some H2.out.2.2.2.2 HK.out.1 HK.out.2.1 HX.out.1
    refine bodyPost_ret (results_blk_tmp (t := 192) (cs := x.cellsV pA pc fA fc) rfl _ (Blk.to (by repeat (with_reducible first | exact HB.out.2.1 | apply Blk.alloc | apply Blk.set_)) (by rfl)) rfl Tryz.underlying192 rfl (by kernel_rfl)) rfl ?_
    have hbf : Below w.heap.size w wr := H2.out.2.2.1.tr HB.out.2.2.2
    unfold HeldOut
    rw [hsome]
    refine ⟨⟨pA, pc, fA, fc, rfl, HX.out.2.2.1, HX.out.2.2.2.1, ?_⟩, ?_⟩
    ·refine key _ ?_
     refine Only.tr ?_ (Only.alloc _)
     iterate 9 (refine Only.tr ?_ (Only.set_ (by simp) _))
     exact Only.refl _ _
    ·repeat (with_reducible first | exact hbf | refine Below.al ?_ _ | refine Below.st ?_ (Nat.le_add_right _ _) _)
   all_goals
    go_wp2_with fail
    go_round
    case rel =>
     refine ⟨k + 1, by omega, by go_num, ?_, HB.out.2.2.2.tr (by repeat (with_reducible first | assumption | exact jb _ _ | refine Below.al ?_ _ | refine Below.drew ?_ | apply Below.st1))⟩
     rw [HX.out.2.1]
     intro y hy
     rcases List.mem_append.1 hy with hy | hy
     ·exact HB.out.2.2.1 y hy
     ·rw [List.mem_singleton.1 hy]
      rintro rfl
      simp at *
    case measure => simp [intOf]; omega
  ·have hkn : k = l.length := by omega
   subst hkn
   have hnone := held_none H2.out.2.2.2.2 HK.out.1 (by have := HB.out.2.2.1; rwa [List.take_length] at this)
   go_wp2_with fail
   refine bodyPost_ret (results_blk_tmp (t := 192) (cs := Held.zeros) rfl _ (Blk.to (by repeat (with_reducible first | exact HB.out.2.1 | apply Blk.alloc | apply Blk.set_)) (by rfl)) rfl Tryz.underlying192 rfl (by kernel_rfl)) rfl ?_
   have hbf : Below w.heap.size w wr := H2.out.2.2.1.tr HB.out.2.2.2
   unfold HeldOut
   rw [hnone]
   refine ⟨rfl, ?_⟩
   repeat (with_reducible first | exact hbf | refine Below.al ?_ _ | refine Below.st ?_ (Nat.le_add_right _ _) _)
end Go.Proofs.YtcmjgghkmdbphaaGreatDoor
namespace Go.Proofs.YtcmjgghkmdbphaaGreatDoor
open Go.RowKit
def planV (rv : Value) (t : Tx) (code : Int) (st : Stamp) (fv : Value) (d y : Bool) : List Value :=
 [rv, .int .i64 t.node, .int .i64 t.life, .int .i64 t.num, .int .i64 code, .int .i64 st.wall, .int .i64 st.logic, .int .i64 st.node, fv, .bool d, .bool y]
theorem told_any (t : Tx) (code : Int) (st : Stamp) (A : Option Addr) (n c : Nat) (w : World) :
 Calls Tryz.prog 150 #[.agg #[.int .i64 t.node, .int .i64 t.life, .int .i64 t.num], .int .i64 code, .agg #[.int .i64 st.wall, .int .i64 st.logic, .int .i64 st.node], .slice A n c] w fun e w' => e = .returned (.agg (planV (.slice none 0 0) t code st (.slice A n c) false false).toArray) ∧ Below w.heap.size w w' := by
 go_enter Tryz.func150, Tryz.ntmps150
 go_wp2_with fail
 refine bodyPost_blk (t := 113) (cs := planV (.slice none 0 0) t code st (.slice A n c) false false) rfl ?_ rfl Tryz.underlying113 rfl (by kernel_rfl) rfl ⟨rfl, by repeat (with_reducible first | assumption | exact jb _ _ | refine Below.al ?_ _ | refine Below.drew ?_ | apply Below.st1)⟩
 have h := Blk.new1 (w.alloc (.cells #[.int .i64 t.node, .int .i64 t.life, .int .i64 t.num] 42)) (.cells #[.int .i64 st.wall, .int .i64 st.logic, .int .i64 st.node] 40) 113 (planV (.slice none 0 0) t code st (.slice A n c) false false)
 rw [World.size_alloc] at h
 exact h
theorem no_any (t : Tx) (code : Int) (w : World) :
 Calls Tryz.prog 152 #[.agg #[.int .i64 t.node, .int .i64 t.life, .int .i64 t.num], .int .i64 code] w fun e w' => e = .returned (.agg (planV (.slice none 0 0) t code zeroStamp (.slice none 0 0) false false).toArray) ∧ Below w.heap.size w w' := by
 have C := fun w => told_any t code zeroStamp none 0 0 w
 have B := Blk.new1 w (.cells #[.int .i64 t.node, .int .i64 t.life, .int .i64 t.num] 42) 113 [.slice none 0 0, .int .i64 0, .int .i64 0, .int .i64 0, .int .i64 0, .int .i64 0, .int .i64 0, .int .i64 0, .slice none 0 0, .bool false, .bool false]
 have hb := ((jb w.heap.size w).al (.cells #[.int .i64 t.node, .int .i64 t.life, .int .i64 t.num] 42)).al (.cells #[.slice none 0 0, .int .i64 0, .int .i64 0, .int .i64 0, .int .i64 0, .int .i64 0, .int .i64 0, .int .i64 0, .slice none 0 0, .bool false, .bool false] 113)
 have HB := jh (ja B hb)
 clear B hb
 go_enter Tryz.func152, Tryz.ntmps152
 go_wp2_with fail
 refine (C _).mono ?_
 clear C
 rintro e w1 ⟨rfl, hb1⟩
 have H1 := jh (ja (HB.out.1.ext hb1) (HB.out.2.tr hb1))
 clear hb1
 go_wp2_with (refine wpList_store_blk (cs := planV (.slice none 0 0) t code zeroStamp (.slice none 0 0) false false) rfl rfl rfl rfl rfl H1.out.1 (by kernel_rfl) rfl (by simp [planV, Value.oneCell']) ?_; intro w2 hB2 hO2 hz2)
 exact bodyPost_blk (t := 113) (cs := planV (.slice none 0 0) t code zeroStamp (.slice none 0 0) false false) rfl hB2 rfl Tryz.underlying113 rfl (by kernel_rfl) rfl ⟨rfl, H1.out.2.trans (hO2.low (fun k e => by have e' : k = w.heap.size + 1 := e; omega) H1.out.2.size)⟩
theorem sdecided_any (g : Nat) (s : St) (t : Tx) (P : Nat → Prop) (w : World) (h : StAt w P g s) (hs : s.self ≠ 0) :
 Calls Tryz.prog 151 #[ptrV g, .agg #[.int .i64 t.node, .int .i64 t.life, .int .i64 t.num]] w fun e w' => e = .returned (.bool (decide (0 < (getA t s.decided).getD 0))) ∧ Below w.heap.size w w' := by
 have hb1 := (jb w.heap.size w).al (.cells #[.int .i64 t.node, .int .i64 t.life, .int .i64 t.num] 42)
 have B0 := Blk.new w 42 [.int .i64 t.node, .int .i64 t.life, .int .i64 t.num]
 obtain ⟨v, hB, hI⟩ := h
 obtain ⟨LD, hMD, hrepD, hlD⟩ := hI.decided.mapV
 obtain ⟨hdec, hdfit⟩ := decided_of hrepD t
 rw [← hlD] at hdec hdfit
 have HDEC := jh hdec
 have H0 := jh (ja hb1 (ja B0 (ja hB hMD)))
 clear hb1 B0 hB hI hrepD hlD hMD hdec
 unfold ptrV
 go_enter Tryz.func151, Tryz.ntmps151
 go_upto_region 1 with fail
 generalize w.alloc (.cells #[.int .i64 t.node, .int .i64 t.life, .int .i64 t.num] 42) = w1 at *
 have y8 := On.cell ((H0.out.2.2.1.ext H0.out.1).cell 8 : w1.cell? ⟨g, 8, none⟩ = some v.decided)
 have z7 := On.cell (H0.out.2.1.cell 0 : w1.cell? ⟨w.heap.size, 0, none⟩ = some (.int .i64 t.node))
 have z8 := On.cell (H0.out.2.1.cell 1 : w1.cell? ⟨w.heap.size, 1, none⟩ = some (.int .i64 t.life))
 have z9 := On.cell (H0.out.2.1.cell 2 : w1.cell? ⟨w.heap.size, 2, none⟩ = some (.int .i64 t.num))
 have HMD := jh (fun (W : World) (hW : ∃ d : Wd (On w1), W = d.w) => (show MapV W v.decided (LD.map fun p => (p.1, oneV p.2.2)) from by obtain ⟨d, rfl⟩ := hW; exact H0.out.2.2.2.ext (H0.out.1.tr d.ok)))
 have C := gone_any g s.self w1.drew ((H0.out.2.2.1.ext H0.out.1).cell 0) hs
 refine wp_region_mix (.seg [0] 1 (.leaf [2, 3, 4, 5, 6, 7, 8, 9, 10, 11, 12])) (fun w' => ∃ d : Wd (On w1), w' = d.w) (by kernel_rfl) (by kernel_rfl) (fun _ _ d _ _ h => by cases d <;> exact h) (ClsW.mk (jb _ _).drew) ?_
 unfold wpMix; simp only [pick, j1, j2, j3, j4]
 (repeat (show wpQuiet _ _ _ _ (_ :: _) _; go_big_quiet_step (fail))); refine qn ?_
 go_wp2_with fail
 refine C.mono ?_
 clear C
 rintro e w' ⟨rfl, rfl⟩
 go_wp2_with fail
 (dsimp only [wpList, SegQ]; refine ⟨fun w' => ∃ d : Wd (On w1), w' = d.w, ClsW.mk (jb _ _).drew, fun _ h => h, ?_⟩; unfold wpMix; simp only [pick, j1, j2, j3, j4])
 (repeat (show wpQuiet _ _ _ _ (_ :: _) _; first | (refine wpQuiet_lookup_v _ rfl (.tmp 12) (.tmp 13) 174 false rfl Tryz.underlying174 rfl HMD.out t rfl rfl _ zero_i64 ?_; simp only [Bool.false_eq_true, if_false]; rw [HDEC.out]; go_simp) | go_big_quiet_step (fail))); refine qn ?_
 go_wp2_with fail
 go_ret
 exact ⟨rfl, H0.out.1.tr (by repeat (with_reducible first | assumption | exact jb _ _ | refine Below.al ?_ _ | refine Below.drew ?_ | apply Below.st1))⟩
end Go.Proofs.YtcmjgghkmdbphaaGreatDoor
