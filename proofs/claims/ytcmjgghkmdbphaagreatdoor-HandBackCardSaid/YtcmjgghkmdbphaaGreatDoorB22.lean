/- state.Held of any state: what is held, in some order. Stamps in their order: the greatest and the least of some. The clock: what it tells and takes in, walked. part: what is held of a transaction; plans that answer. hand.tried: what a state would say to a record. state.State.Take: the row lies in new memory. hand.Weight: how much a range has. -/
import Derived.Test.YtcmjgghkmdbphaaGreatDoorB21
import Derived.Test.YtcmjgghkmdbphaaGreatDoorB16
import Derived.Test.YtcmjgghkmdbphaaGreatDoorB15
import Derived.Test.YtcmjgghkmdbphaaGreatDoorB01
import Derived.StillTailTactics
import Derived.Laws.ResultCell
import Derived.Test.YtcmjgghkmdbphaaGreatDoorB07
import Derived.Laws.StructEq
import Derived.Test.YtcmjgghkmdbphaaGreatDoorB17
import Derived.Test.YtcmjgghkmdbphaaGreatDoorB19
import Derived.Test.YtcmjgghkmdbphaaGreatDoorB20
import Derived.Test.YtcmjgghkmdbphaaGreatDoorB04
set_option maxRecDepth 20000
set_option maxHeartbeats 25600000
namespace Go.Proofs.YtcmjgghkmdbphaaGreatDoor
open Go.RowKit Go.Shelf Go.Sort
theorem OnlyD.cell {F : Nat → Prop} {wx : World} {p : Addr} {u : Value} (h : wx.cell? p = some u) (hF : ¬ F p.block) : ∀ d : Wd (Only F wx), d.w.cell? p = some u := fun d =>
 (World.cell?_of_block (w := wx) (d.ok.block p.block (lt_of_cell h) hF)).trans h
theorem txs_at {w : World} {B e : Nat} {v : Value} {ts : List Tx} (h : w.ownsRow B e 3 v ts.length (ts.flatMap Tx.cells)) {k : Nat} {t : Tx} (hk : ts[k]? = some t) :
 ∃ g c, v = .slice (some ⟨g, 0, none⟩) ts.length c ∧ B ≤ g ∧ g < w.heap.size ∧ w.cell? ⟨g, k * 3, none⟩ = some (.int .i64 t.node) ∧ w.cell? ⟨g, k * 3 + 1, none⟩ = some (.int .i64 t.life) ∧ w.cell? ⟨g, k * 3 + 2, none⟩ = some (.int .i64 t.num) := by
 have hkl := (List.getElem?_eq_some_iff.1 hk).1
 have hk2 := (List.getElem?_eq_some_iff.1 hk).2
 rcases h.2 with ⟨_, h0⟩ | ⟨g, cap, cur, rfl, hB, hg, hn, hc, hs, ht⟩
 ·omega
 ·have hgl := (Array.getElem?_eq_some_iff.1 hg).1
  have key : ∀ j, j < 3 → w.cell? ⟨g, k * 3 + j, none⟩ = t.cells[j]? := fun j hj => by
   have h1 : k * 3 + j < ts.length * 3 := by omega
   have h2 := flat_get ts (k * 3 + j) h1
   rw [show (k * 3 + j) / 3 = k by omega, show (k * 3 + j) % 3 = j by omega, getElem!_pos _ k hkl, hk2] at h2
   have h3 : (ts.flatMap Tx.cells)[k * 3 + j]? = cur[k * 3 + j]? := by
    rw [← ht, List.getElem?_take_of_lt (by first | exact h1 | (rw [flat_len]; exact h1)), Array.getElem?_toList]
   unfold World.cell?
   simp only [hg]
   rw [← h3, h2]
   match j, hj with
   | 0, _ => rfl
   | 1, _ => rfl
   | 2, _ => rfl
  exact ⟨g, cap, rfl, hB, hgl, key 0 (by decide), key 1 (by decide), key 2 (by decide)⟩
theorem held_info : (Tryz.prog.info? 192).map (fun i => (i.zero, i.size, i.bytes)) = some (some (.agg Held.zeros.toArray), 9, 112) := by kernel_rfl
def dftHeld : Held := ⟨⟨0, 0, 0⟩, ⟨⟨#[]⟩, []⟩, ⟨0, 0, 0⟩, []⟩
def heldsOf (s : St) (ts : List Tx) : List Held := ts.map fun t => (getA t s.held).getD dftHeld
theorem heldsOf_perm {s : St} (hn : (s.held.map (·.1)).Nodup) {ts : List Tx} (hp : ts.Perm (s.held.map (·.1))) : (heldsOf s ts).Perm (s.held.map (·.2)) := by
 refine (hp.map _).trans ?_
 rw [List.map_map]
 refine List.Perm.of_eq (List.map_congr_left fun p hp => ?_)
 show (getA p.1 s.held).getD dftHeld = p.2
 rw [getA_of_mem hn hp]; rfl
def GotHelds (s : St) (B : Nat) (e : Ending) (w' : World) : Prop := ∃ v hs, e = .returned v ∧ hs.Perm (s.held.map (·.2)) ∧ HeldR.Own w' B 192 (fun k => B ≤ k) v hs
theorem sheld_any (g : Nat) (s : St) (P : Nat → Prop) (w : World) (h : StAt w P g s) (hs : s.self ≠ 0) (hf : ∀ x ∈ s.held, HeldFit x.2) (hl : s.held.length ≤ 1000000) :
 Calls Tryz.prog 41 #[ptrV g] w fun e w' => GotHelds s w.heap.size e w' ∧ Below w.heap.size w w' := by
 by_cases h0 : s.held = []
 ·refine (heldNo_any g s P w h hs h0).mono ?_
  rintro e w' ⟨rfl, hb⟩
  exact ⟨⟨_, [], rfl, by rw [h0]; exact .nil, Rep.Own.nil_⟩, hb⟩
 obtain ⟨v, hB, hI⟩ := h
 have hnd := hI.held.1
 obtain ⟨LA, hMV, hLr, hll⟩ := hI.held.mapV
 have C1 := gone_any g s.self w (hB.cell 0) hs
 have b6 : w.cell? ⟨g, 6, none⟩ = some v.held := hB.cell 6
 have hLA : LA ≠ [] := fun e => h0 (by rw [hll, e]; rfl)
 obtain ⟨m, hv, hM⟩ : ∃ m, v.held = .map (some m) ∧ MapAt txE w m (LA.map fun p => (p.1, aggV p.2.2)) := by
  rcases hMV with ⟨_, e⟩ | h
  ·exact absurd (List.map_eq_nil_iff.1 e) hLA
  ·exact h
 rw [hv] at b6
 have C2 := keysH_any (some m) w
 have hb1 := (jb w.heap.size w).al (.cells #[.map (some m)] 172)
 have C3 := sortedH_any w.heap.size m _ (w.alloc (.cells #[.map (some m)] 172)) (by simp) ((Blk.new w 172 [.map (some m)]).cell 0) (hM.ext hb1) (by rw [List.length_map]; have := congrArg List.length hll; rw [List.length_map] at this; omega) (fun e => hLA (List.map_eq_nil_iff.1 e))
 have HV := jh (ja hB (ja hMV (ja hLr (ja hll (ja hnd (ja hf (ja hl (ja hb1 hv))))))))
 clear hB hI hMV hLr hll hnd hf hM hb1 h0 hLA hl hv
 unfold GotTxs at C3
 unfold ptrV at C1 ⊢
 go_enter Tryz.func41, Tryz.ntmps41
 go_wp2_with fail
 refine C1.mono ?_
 clear C1
 rintro e w' ⟨rfl, rfl⟩
 go_wp2_with fail
 refine C2.mono ?_
 clear C2 b6
 rintro e w1 ⟨rfl, rfl⟩
 go_wp2_with fail
 refine C3.mono ?_
 clear C3
 rintro e w2 ⟨⟨vt, ts, rfl, hpt, hrow⟩, hb2⟩
 have hpt : ts.Perm (s.held.map (·.1)) := hpt.trans (.of_eq (by rw [HV.out.2.2.2.1, List.map_map, List.map_map]; rfl))
 have htl : ts.length ≤ 1000000 := by have := hpt.length_eq; rw [List.length_map] at this; have := HV.out.2.2.2.2.2.2.1; omega
 have hz1 : (w.alloc (.cells #[.map (some m)] 172)).heap.size = w.heap.size + 1 := by simp
 have hw2 := HV.out.2.2.2.2.2.2.2.1.tr hb2
 obtain ⟨At, ct, rfl⟩ := own_form hrow
 have H2 := jh (ja hpt (ja hrow hw2))
 clear hpt hrow hw2 hb2
 go_wp2_with fail
 go_loopw [2, 14] (fun ov iv wr => ∃ k : Nat, k ≤ ts.length ∧ iv = .int .i64 k ∧ HeldR.Own wr w.heap.size 192 (fun q => w.heap.size ≤ q) ov (heldsOf s (ts.take k)) ∧ Below w2.heap.size w2 wr ∧ (∀ q, ov.ownBlock = some q → w2.heap.size ≤ q)) (fun _ iv _ => ts.length - (intOf iv).toNat)
 case atStart => exact ⟨0, Nat.zero_le _, rfl, by rw [List.take_zero]; exact Rep.Own.nil_, jb _ _, fun q e => by cases e⟩
 case round =>
  obtain ⟨k, hk, rfl, hown, hbl, hoff⟩ := hrel
  obtain ⟨Ao, co, rfl, _⟩ := hown.form
  by_cases hlt : k < ts.length
  ·have hlt' : (k : Int) < ts.length := by omega
   have hlk := jg hlt
   have hts : heldsOf s (ts.take (k + 1)) = heldsOf s (ts.take k) ++ [(getA ts[k] s.held).getD dftHeld] := by
    unfold heldsOf; rw [take_snoc ts k hlt, List.map_append]; rfl
   have hmem : ts[k] ∈ s.held.map (·.1) := H2.out.1.subset (List.getElem_mem hlt)
   obtain ⟨gt, cc, hvt, _, hgt, e0, e1, e2⟩ := txs_at (H2.out.2.1.ext_ hbl) hlk
   generalize ts[k] = t at *
   injection hvt with hA _ hcc
   subst hA hcc
   have hMVr : MapV wr v.held (LA.map fun p => (p.1, aggV p.2.2)) := HV.out.2.1.ext (H2.out.2.2.tr hbl)
   rcases held_of (fun p hp => HeldR.same (HV.out.2.2.1 p hp) (js (H2.out.2.2.tr hbl))) t with ⟨hg0, _⟩ | ⟨h, pA, pc, fA, fc, hgs, hq, k1, k2, k3, k4, k5⟩
   ·exfalso
    rw [← HV.out.2.2.2.1] at hg0
    exact (getA_none.1 hg0) hmem
   rw [← HV.out.2.2.2.1] at hgs
   rw [hgs, Option.getD_some] at hts
   have hfit : HeldFit h := HV.out.2.2.2.2.2.1 _ (getA_mem hgs)
   have hol : (heldsOf s (ts.take k)).length ≤ 1000000 := by unfold heldsOf; rw [List.length_map, List.length_take]; omega
   have y6 : wr.cell? ⟨g, 6, none⟩ = some v.held := (HV.out.1.ext (H2.out.2.2.tr hbl)).cell 6
   rw [HV.out.2.2.2.2.2.2.2.2] at y6
   have HO := jh (ja hown (ja hbl (ja hoff (ja hts (ja k1 (ja k2 (ja k3 (ja k4 (ja k5 hfit)))))))))
   have hMVr : MapV wr (.map (some m)) (LA.map fun p => (p.1, aggV p.2.2)) := by rw [← HV.out.2.2.2.2.2.2.2.2]; exact hMVr
   have HMX := jh hMVr
   clear hmem hlk hown hbl hoff hts k1 k2 k3 k4 k5 hfit hgs hMVr
   go_upto_region 6 with fail
   have hbx := (jb wr.heap.size wr).al (.cells #[.int .i64 t.node, .int .i64 t.life, .int .i64 t.num] 42)
   have BX := Blk.new wr 42 [.int .i64 t.node, .int .i64 t.life, .int .i64 t.num]
   have hzx : (wr.alloc (.cells #[.int .i64 t.node, .int .i64 t.life, .int .i64 t.num] 42)).heap.size = wr.heap.size + 1 := by simp
   have z6 : (wr.alloc (.cells #[.int .i64 t.node, .int .i64 t.life, .int .i64 t.num] 42)).cell? ⟨g, 6, none⟩ = some (.map (some m)) := by
    have := (HV.out.1.ext ((H2.out.2.2.tr HO.out.2.1).tr hbx)).cell 6
    rw [this, ← HV.out.2.2.2.2.2.2.2.2]; rfl
   generalize (wr.alloc (.cells #[.int .i64 t.node, .int .i64 t.life, .int .i64 t.num] 42)) = wx at *
   have hzr := HO.out.2.1.size
   have hz2 := H2.out.2.2.size
   have hgl := HV.out.1.lt
   have hml : m < w.heap.size := by
    rcases HV.out.2.1 with ⟨e, _⟩ | ⟨m', e, hM⟩
    ·rw [HV.out.2.2.2.2.2.2.2.2] at e; cases e
    ·rw [HV.out.2.2.2.2.2.2.2.2] at e
     injection e with e
     injection e with e
     rw [e]; exact hM.lt
   obtain ⟨F, hF⟩ : ∃ F : Nat → Prop, F = fun q => w2.heap.size ≤ q ∧ q ≠ wr.heap.size := ⟨_, rfl⟩
   have HF := jh hF
   have nF1 : ∀ q, q < w2.heap.size → ¬ F q := fun q h1 h2 => by rw [hF] at h2; have := h2.1; omega
   have nF2 : ¬ F wr.heap.size := fun h2 => by rw [hF] at h2; exact h2.2 rfl
   have z6 := OnlyD.cell (F := F) z6 (nF1 _ (by show g < _; omega))
   have x0 := OnlyD.cell (F := F) (BX.cell 0 : wx.cell? ⟨wr.heap.size, 0, none⟩ = some (.int .i64 t.node)) nF2
   have x1 := OnlyD.cell (F := F) (BX.cell 1 : wx.cell? ⟨wr.heap.size, 1, none⟩ = some (.int .i64 t.life)) nF2
   have x2 := OnlyD.cell (F := F) (BX.cell 2 : wx.cell? ⟨wr.heap.size, 2, none⟩ = some (.int .i64 t.num)) nF2
   have hMx := HMX.out.ext hbx
   clear hF
   have HMV := jh (fun (W : World) (hW : ∃ d : Wd (Only F wx), W = d.w) => (show MapV W (.map (some m)) (LA.map fun p => (p.1, aggV p.2.2)) from by
    obtain ⟨d, rfl⟩ := hW
    rcases hMx with ⟨e, _⟩ | ⟨m', e, hM⟩
    ·cases e
    ·injection e with e
     injection e with e
     subst e
     exact .inr ⟨_, rfl, hM.only d.ok (nF1 _ (by omega))⟩))
   have hlo : Only F wx wx.drew := Only.drew
   have HBX := jh hbx
   haveI : Nonempty (Wd (Only F wx)) := ⟨⟨wx, Only.refl _ _⟩⟩
   clear hbx BX y6 e0 e1 e2 hMx
   refine wp_region_mix (.seg [0, 1, 2, 3, 4, 5, 6] 7 (.seg [] 8 (.seg [] 9 (.leaf [10])))) (fun w' => ∃ d : Wd (Only F wx), w' = d.w) (by kernel_rfl) (by kernel_rfl) (fun _ _ d _ _ h => by cases d <;> exact h) (ClsW.mk (D := Only F wx) hlo) ?_
   unfold wpMix; simp only [pick, j1, j2, j3, j4]
   (repeat (show wpQuiet _ _ _ _ (_ :: _) _; first | (refine wpQuiet_lookup_v _ rfl (.tmp 22) (.tmp 23) 172 false rfl Tryz.underlying172 rfl HMV.out t rfl hq _ zero_held ?_; simp only [Bool.false_eq_true, if_false, Option.getD_some]; unfold Held.cellsV; go_simp) | go_big_quiet_step (fail))); refine qn ?_
   have CO := own_any h pA fA pc fc P wx.drew (((HO.out.2.2.2.2.2.2.2.1).2.2.same (js (HBX.out.drew)) HBX.out.drew.size)) (((HO.out.2.2.2.2.2.2.2.2.1).2.2.same (js (HBX.out.drew)) HBX.out.drew.size)) (by have := HO.out.2.2.2.2.2.2.2.2.2.few; omega) (fun p hp => by have := (HO.out.2.2.2.2.2.2.2.2.2.data p hp).1; omega) (by have := HO.out.2.2.2.2.2.2.2.2.2.firsts.1; omega)
   unfold GotHeld Held.cellsV at CO
   go_wp2_with fail
   refine CO.mono ?_
   clear CO
   rintro e w7 ⟨⟨qA, qc, uA, uc, rfl, hq7, hu7⟩, hb7'⟩
   have hb7 : Below wx.heap.size wx w7 := (jb wx.heap.size wx).drew.tr hb7'
   have hzd : wx.drew.heap.size = wx.heap.size := rfl
   have hz7 := hb7.size
   have HO7 := jh (HO.out.1.ext (HBX.out.tr hb7))
   have hH7 : HeldR.rep w7 (fun q => wx.heap.size ≤ q) (Held.cellsV h qA qc uA uc) h := held_rep.2 ⟨qA, qc, uA, uc, rfl, HO.out.2.2.2.2.1, HO.out.2.2.2.2.2.1, HO.out.2.2.2.2.2.2.1, hq7, hu7⟩
   have H7 := jh (ja hH7 hb7)
   have hO7 : Only F wx w7 := jo hb7
   have hO8 : Only F wx (w7.alloc (.cells (Held.cellsV h qA qc uA uc).toArray 192)) := jo (hb7.al _)
   unfold Held.cellsV at hO8
   clear hb7' hq7 hu7 hH7 hb7
   go_wp2_with fail
   (refine segw (D := Only F wx) (hO7) ?_; unfold wpMix; simp only [pick, j1, j2, j3, j4]; (repeat (show wpQuiet _ _ _ _ (_ :: _) _; go_big_quiet_step (fail))); refine qn ?_)
   go_wp2_with fail
   (refine segw (D := Only F wx) (hO8) ?_; unfold wpMix; simp only [pick, j1, j2, j3, j4]; (repeat (show wpQuiet _ _ _ _ (_ :: _) _; go_big_quiet_step (fail))); refine qn ?_)
   obtain ⟨i0, r1, r2, r3, r4⟩ := info_parts held_info
   refine wpList_append_new (R := HeldR) (cs := Held.cellsV h qA qc uA uc) w7 rfl (.tmp 18) (.tmp 26) _ rfl w.heap.size 192 i0 _ 112 Tryz.underlying83 r1 r2 r3 r4 rfl _ (heldsOf s (ts.take k)) (fun q => w.heap.size ≤ q) rfl HO7.out (fun _ h => h) rfl (fun q => wx.heap.size ≤ q) h H7.out.1 (fun q h1 h2 => ⟨by omega, fun e => by
    have h3 := (HO.out.1.lt q e.symm).2
    omega⟩) (by unfold maxLen; omega) (by omega) (by omega) ?_
   intro v8 w8 ho8 hg8 hat8 hne8 hb8'
   have hoff8 : ∀ q, (Value.slice Ao (heldsOf s (List.take k ts)).length co).ownBlock = some q → w2.heap.size ≤ q ∧ q < wr.heap.size := fun q e => ⟨HO.out.2.2.1 q e, (HO.out.1.lt q e).2⟩
   have hbr : Below w2.heap.size w2 w7 := HO.out.2.1.tr (HBX.out.tr H7.out.2)
   have hb9 : Below w2.heap.size w2 w8 := ⟨hg8.os.trans hbr.os, hg8.tape.trans hbr.tape, hg8.output.trans hbr.output, Nat.le_trans hbr.size hg8.size, fun q hq => (hg8.block q (by omega) (fun e => by have := (hoff8 q e.symm).1; omega)).trans (hbr.block q hq)⟩
   have hO9 : Only F wx w8 := (jo H7.out.2).tr (Only.grown hg8 fun q e => by
    rw [HF.out]; have := hoff8 q e; exact ⟨this.1, by omega⟩)
   obtain ⟨A8, c8, rfl, _⟩ := ho8.form
   have hl8 : (heldsOf s (List.take k ts) ++ [h]).length = (heldsOf s (List.take k ts)).length + 1 := by simp
   rw [hl8] at ho8 hat8 ⊢
   have H8 := jh (ja ho8 (ja hb9 hat8))
   clear hl8
   clear ho8 hg8 hne8 hb8' hb9 hoff8 hbr r1 r2 r3 r4
   go_simp
   (refine segw (D := Only F wx) (hO9) ?_; unfold wpMix; simp only [pick, j1, j2, j3, j4]; (repeat (show wpQuiet _ _ _ _ (_ :: _) _; go_big_quiet_step (fail))); refine qn ?_)
   clear z6 x0 x1 x2 hO7 hO8 hO9 hlo
   go_wp2_with fail
   go_round
   case rel => exact ⟨k + 1, by omega, by go_num, by rw [HO.out.2.2.2.1]; exact H8.out.1, H8.out.2.1, fun q e => by
    rcases H8.out.2.2 with h | h
    ·rw [h] at e; exact HO.out.2.2.1 q e
    ·rw [h] at e; injection e with e; omega⟩
   case measure => simp [intOf]; omega
  ·have hkn : k = ts.length := by omega
   subst hkn
   rw [List.take_length] at hown ⊢
   have HO := jh (ja hown hbl)
   clear hown hbl hoff
   go_wp2_with fail
   go_ret
   exact ⟨⟨_, _, rfl, heldsOf_perm HV.out.2.2.2.2.1 H2.out.1, HO.out.1⟩, H2.out.2.2.tr HO.out.2⟩
end Go.Proofs.YtcmjgghkmdbphaaGreatDoor
namespace Go.Proofs.YtcmjgghkmdbphaaGreatDoor
open Go.RowKit
attribute [local go_sem] Stamp.cells
def stOrd (a b : Stamp) : Int := orI [cmpI a.wall b.wall, cmpI a.logic b.logic, cmpI a.node b.node]
theorem stOr3_any (x y z : Int) (b c : Nat) (w : World) (h0 : w.cell? ⟨b, 0, none⟩ = some (.int .i64 x)) (h1 : w.cell? ⟨b, 1, none⟩ = some (.int .i64 y)) (h2 : w.cell? ⟨b, 2, none⟩ = some (.int .i64 z)) :
 Calls Tryz.prog 224 #[.slice (some ⟨b, 0, none⟩) 3 c] w fun e w' => e = .returned (.int .i64 (orI [x, y, z])) ∧ w = w' := by
 refine or_any [x, y, z] b c w (by simp) ?_
 intro k v hk
 match k, hk with
 | 0, hk => simp at hk; subst hk; exact h0
 | 1, hk => simp at hk; subst hk; exact h1
 | 2, hk => simp at hk; subst hk; exact h2
theorem stOrder_any (a b : Stamp) (w : World) : Calls Tryz.prog 293 #[.agg #[.int .i64 a.wall, .int .i64 a.logic, .int .i64 a.node], .agg #[.int .i64 b.wall, .int .i64 b.logic, .int .i64 b.node]] w fun e w' => e = .returned (.int .i64 (stOrd a b)) ∧ Below w.heap.size w w' := by
 go_enter Tryz.func293, Tryz.ntmps293
 go_wp2_with fail
 go_region_held3 (fun w' => w'.cell? ⟨w.heap.size, 0, none⟩ = some (.int .i64 a.wall) ∧ w'.cell? ⟨w.heap.size, 1, none⟩ = some (.int .i64 a.logic) ∧ w'.cell? ⟨w.heap.size, 2, none⟩ = some (.int .i64 a.node) ∧ w'.cell? ⟨w.heap.size + 1, 0, none⟩ = some (.int .i64 b.wall) ∧ w'.cell? ⟨w.heap.size + 1, 1, none⟩ = some (.int .i64 b.logic) ∧ w'.cell? ⟨w.heap.size + 1, 2, none⟩ = some (.int .i64 b.node)) (simp [go_sem, World.cell?_alloc_past])
  (first
   | (go_at_call 225; refine (cmp_any _ _ _).mono ?_; rintro e w' ⟨rfl, rfl⟩)
   | (go_at_call 224; refine (stOr3_any (cmpI a.wall b.wall) (cmpI a.logic b.logic) (cmpI a.node b.node) _ _ _ ?_ ?_ ?_).mono ?_; (simp [go_sem]); (simp [go_sem]); (simp [go_sem]); rintro e w' ⟨rfl, rfl⟩))
 go_wp2
 go_ret
 exact ⟨rfl, ((((jb _ _).al _).al _).al _).drew⟩
theorem stCmp_bd (x y : Int) : -1 ≤ cmpI x y ∧ cmpI x y ≤ 1 := by unfold cmpI; (repeat' split) <;> omega
theorem stOrd_bd (a b : Stamp) : -1 ≤ stOrd a b ∧ stOrd a b ≤ 1 := by
 have h1 := stCmp_bd a.wall b.wall
 have h2 := stCmp_bd a.logic b.logic
 have h3 := stCmp_bd a.node b.node
 unfold stOrd orI orI orI orI; (repeat' split) <;> omega
def pickI (way : Int) (s x : Stamp) : Stamp := if 0 < stOrd x s * way then x else s
def mostI (way : Int) : List Stamp → Stamp
 | [] => ⟨0, 0, 0⟩
 | x :: l => l.foldl (pickI way) x
theorem mostI_snoc (way : Int) (l : List Stamp) (x : Stamp) (h : 0 < l.length) : mostI way (l ++ [x]) = pickI way (mostI way l) x := by
 match l, h with
 | y :: l, _ => simp [mostI, List.foldl_append]
def SAt (w : World) (b o : Nat) (s : Stamp) : Prop := w.cell? ⟨b, o, none⟩ = some (.int .i64 s.wall) ∧ w.cell? ⟨b, o + 1, none⟩ = some (.int .i64 s.logic) ∧ w.cell? ⟨b, o + 2, none⟩ = some (.int .i64 s.node)
theorem SAt.below {w w' : World} {B b o : Nat} {s : Stamp} (h : SAt w b o s) (hb : Below B w w') (hB : b < B) : SAt w' b o s :=
 ⟨(hb.cell (p := ⟨b, _, none⟩) hB).trans h.1, (hb.cell (p := ⟨b, _, none⟩) hB).trans h.2.1, (hb.cell (p := ⟨b, _, none⟩) hB).trans h.2.2⟩
def MostRel (B : Nat) (way : Int) (xs : List Stamp) (w0 : World) (k : Nat) (w : World) : Prop :=
 Blk w B 40 (mostI way (xs.take k)).cells ∧ Below B w0 w
theorem pick_yes {way : Int} {s x : Stamp} (h : 0 < stOrd x s * way) : pickI way s x = x := if_pos h
theorem pick_no {way : Int} {s x : Stamp} (h : ¬ 0 < stOrd x s * way) : pickI way s x = s := if_neg h
theorem most_any (way : Int) (hw : way = 1 ∨ way = -1) (xs : List Stamp) (b c : Nat) (w : World) (hl : xs.length ≤ 1000) (hb : b < w.heap.size) (hc : ∀ k x, xs[k]? = some x → SAt w b (k * 3) x) :
 Calls Tryz.prog 239 #[.slice (some ⟨b, 0, none⟩) xs.length c, .int .i64 way] w fun e w' => e = .returned (.agg (mostI way xs).cells.toArray) ∧ Below w.heap.size w w' := by
 have HW := jh hw; clear hw
 have HC := jh hc; clear hc
 go_enter Tryz.func239, Tryz.ntmps239
 go_wp2
 go_loopw [9] (fun i wr => ∃ k : Nat, k ≤ xs.length ∧ i = .int .i64 k ∧ MostRel w.heap.size way xs w k wr) (fun i _ => xs.length - (intOf i).toNat)
 case atStart => exact ⟨0, Nat.zero_le _, rfl, Blk.new _ _ _, (jb _ _).al _⟩
 case round =>
  obtain ⟨k, hk, rfl, hB, hbl⟩ := hrel
  have hsz := hB.lt
  have s0 := hB.cell 0
  have s1 := hB.cell 1
  have s2 := hB.cell 2
  have hf := hB.frozen
  have f0 := hf 0
  have f1 := hf 1
  have f2 := hf 2
  simp only [Stamp.cells, List.getElem?_cons_zero, List.getElem?_cons_succ] at s0 s1 s2
  clear hf
  by_cases hlt : k < xs.length
  ·obtain ⟨x0, x1, x2⟩ := (HC.out k xs[k] (jg hlt)).below hbl hb
   by_cases hz : k = 0
   ·subst hz
    go_wp2
    go_round
    case rel =>
     refine ⟨1, by omega, by go_num, Blk.to (by repeat (with_reducible first | exact hB | apply Blk.alloc | apply Blk.set_)) ?_, by repeat (with_reducible first | exact hbl | refine Below.al ?_ _ | refine Below.st ?_ (Nat.le_refl _) _)⟩
     rw [take_snoc _ _ hlt]; rfl
    case measure => simp [intOf]; omega
   ·have e0 : ((k : Int) == 0) = false := by simp; omega
    have hwp : wrap64 (stOrd xs[k] (mostI way (xs.take k)) * way) = stOrd xs[k] (mostI way (xs.take k)) * way := by
     obtain ⟨bd1, bd2⟩ := stOrd_bd xs[k] (mostI way (xs.take k))
     refine wrap_in _ ?_; rcases HW.out with rfl | rfl <;> omega
    go_wp2_with (go_at_call 293; refine (stOrder_any xs[k] (mostI way (xs.take k)) _).mono ?_; rintro e w' ⟨rfl, hbb⟩; have hB' := (hB.alloc _).ext hbb; have hX' := (Blk.new wr 40 xs[k].cells).ext hbb; have t0 := hX'.cell 0; have t1 := hX'.cell 1; have t2 := hX'.cell 2; simp only [Stamp.cells, List.getElem?_cons_zero, List.getElem?_cons_succ] at t0 t1 t2; have u0 := hB'.cell 0; have u1 := hB'.cell 1; have u2 := hB'.cell 2; simp only [Stamp.cells, List.getElem?_cons_zero, List.getElem?_cons_succ] at u0 u1 u2; have g0 := hB'.frozen 0; have g1 := hB'.frozen 1; have g2 := hB'.frozen 2)
    ·go_round
     case rel =>
      have hy : 0 < stOrd xs[k] (mostI way (xs.take k)) * way := by assumption
      refine ⟨k + 1, by omega, by go_num, (((hB'.set_ 0 _).set_ 1 _).set_ 2 _).to ?_, ((((hbl.al _).tr hbb).st (Nat.le_refl _) _).st (Nat.le_refl _) _).st (Nat.le_refl _) _⟩
      rw [take_snoc _ _ hlt, mostI_snoc _ _ _ (by simp; omega), pick_yes hy]; rfl
     case measure => simp [intOf]; omega
    ·go_round
     case rel =>
      have hy : ¬ 0 < stOrd xs[k] (mostI way (xs.take k)) * way := by omega
      refine ⟨k + 1, by omega, by go_num, hB'.to ?_, (hbl.al _).tr hbb⟩
      rw [take_snoc _ _ hlt, mostI_snoc _ _ _ (by simp; omega), pick_no hy]
     case measure => simp [intOf]; omega
  ·go_wp2
   have hk' : k = xs.length := by omega
   subst hk'
   exact bodyPost_blk (t := 40) (cs := (mostI way xs).cells) rfl (Blk.to (by repeat (with_reducible first | exact hB | apply Blk.alloc | apply Blk.set_)) (by rw [List.take_length]; rfl)) rfl Tryz.underlying40 rfl (by kernel_rfl) rfl
    ⟨rfl, by repeat (with_reducible first | exact hbl | refine Below.al ?_ _ | refine Below.st ?_ (Nat.le_refl _) _)⟩
theorem SAt.at2 {w : World} {b : Nat} {x y : Stamp} (h0 : SAt w b 0 x) (h1 : SAt w b 3 y) : ∀ k z, [x, y][k]? = some z → SAt w b (k * 3) z := by
 intro k z hk
 match k, hk with
 | 0, hk => simp at hk; subst hk; exact h0
 | 1, hk => simp at hk; subst hk; exact h1
def maxS (a b : Stamp) : Stamp := mostI 1 [a, b]
theorem stampMax_any (x y : Stamp) (b c : Nat) (w : World) (hb : b < w.heap.size) (h0 : SAt w b 0 x) (h1 : SAt w b 3 y) :
 Calls Tryz.prog 238 #[.slice (some ⟨b, 0, none⟩) 2 c] w fun e w' => e = .returned (.agg (maxS x y).cells.toArray) ∧ Below w.heap.size w w' := by
 have H0 := h0.below ((jb w.heap.size w).al (.cells #[.int .i64 0, .int .i64 0, .int .i64 0] 40)) hb
 have H1 := h1.below ((jb w.heap.size w).al (.cells #[.int .i64 0, .int .i64 0, .int .i64 0] 40)) hb
 have HH := jh (ja H0 H1); clear H0 H1 h0 h1
 go_enter Tryz.func238, Tryz.ntmps238
 go_wp2_with fail
 have C := most_any 1 (Or.inl rfl) [x, y] b c _ (by simp) (by simp; omega) (HH.out.1.at2 HH.out.2)
 refine C.mono ?_
 clear C
 rintro e w' ⟨rfl, hbb⟩
 have hB' := (Blk.new w 40 (Stamp.cells ⟨0, 0, 0⟩)).ext hbb
 have t0 := hB'.cell
 have t1 := hB'.frozen
 go_wp2
 exact bodyPost_blk (t := 40) (cs := (maxS x y).cells) rfl (Blk.to (by repeat (with_reducible first | exact hB' | apply Blk.alloc | apply Blk.set_)) (by rfl)) rfl Tryz.underlying40 rfl (by kernel_rfl) rfl
  ⟨rfl, by repeat (with_reducible first | exact ((jb _ _).al _).tr hbb | refine Below.al ?_ _ | refine Below.drew ?_ | refine Below.st ?_ (Nat.le_refl _) _ | apply Below.st1)⟩
end Go.Proofs.YtcmjgghkmdbphaaGreatDoor
namespace Go.Proofs.YtcmjgghkmdbphaaGreatDoor
open Go.RowKit
structure Clk where
 reading : Int
 last : Stamp
def Clk.cells (c : Clk) : List Value := [.int .i64 c.reading, .int .i64 c.last.wall, .int .i64 c.last.logic, .int .i64 c.last.node]
def CkAt (w : World) (g : Nat) (c : Clk) : Prop := Blk w g 232 c.cells
structure Clk.Ok (c : Clk) : Prop where
 node : 1 ≤ c.last.node ∧ c.last.node ≤ 5
 wall : 0 ≤ c.last.wall ∧ c.last.wall ≤ 1125899906842624
 logic : 0 ≤ c.last.logic ∧ c.last.logic ≤ 65535
 reading : 0 ≤ c.reading ∧ c.reading ≤ 1125899906842624
def mergeC (c : Clk) (s : Stamp) : Clk × Int :=
 if soundB s = false then (c, 1)
 else if c.last.wall < s.wall ∧ 1000 < s.wall - c.reading then (c, 6)
 else ({ c with last := maxS c.last { s with node := c.last.node } }, 0)
theorem clkNew_any (node floor : Int) (w : World) (h : (1 ≤ node ∧ node ≤ 5) ∧ 0 ≤ floor ∧ floor ≤ 1125899906842624) :
 Calls Tryz.prog 57 #[.int .i64 node, .int .i64 floor] w fun e w' => e = .returned (.tuple #[.pointer (some ⟨w.heap.size, 0, none⟩), .int .i64 0]) ∧ CkAt w' w.heap.size ⟨0, ⟨floor, 0, node⟩⟩ ∧ w'.heap.size = w.heap.size + 1 ∧ Below w.heap.size w w' := by
 obtain ⟨⟨h1, h2⟩, h3, h4⟩ := h
 go_enter Tryz.func57, Tryz.ntmps57
 go_wp2
 go_ret2
 exact ⟨rfl, Blk.new _ _ _, by simp, (jb _ _).al _⟩
theorem clkGone_any (g : Nat) (c : Clk) (w : World) (hc : CkAt w g c) (hn : (c.last.node == 0) = false) :
 Calls Tryz.prog 148 #[.pointer (some ⟨g, 0, none⟩)] w fun e w' => e = .returned (.bool false) ∧ w = w' := by
 have c3 := hc.cell 3
 simp only [Clk.cells, List.getElem?_cons_zero, List.getElem?_cons_succ] at c3
 go_enter Tryz.func148, Tryz.ntmps148
 go_wp2
 go_ret
 exact ⟨rfl, rfl⟩
theorem clkNow_any (g : Nat) (c : Clk) (w : World) (hc : CkAt w g c) (hn : (c.last.node == 0) = false) :
 Calls Tryz.prog 64 #[.pointer (some ⟨g, 0, none⟩)] w fun e w' => e = .returned (.agg c.last.cells.toArray) ∧ Below w.heap.size w w' := by
 have hc1 : CkAt (w.alloc (.cells #[.int .i64 0, .int .i64 0, .int .i64 0] 40)) g c := Blk.alloc hc _
 have C := clkGone_any g c _ hc1 hn
 have c1 := hc.cell 1
 have c2 := hc.cell 2
 have c3 := hc.cell 3
 simp only [Clk.cells, List.getElem?_cons_zero, List.getElem?_cons_succ] at c1 c2 c3
 have hlt := hc.lt
 clear hc hc1
 go_enter Tryz.func64, Tryz.ntmps64
 go_wp2_with fail
 refine C.mono ?_
 clear C
 rintro e w' ⟨rfl, rfl⟩
 go_wp2_with fail
 exact bodyPost_blk (t := 40) (cs := c.last.cells) rfl (Blk.new _ _ _) rfl Tryz.underlying40 rfl (by kernel_rfl) rfl ⟨rfl, by repeat (with_reducible first | assumption | exact jb _ _ | refine Below.al ?_ _ | refine Below.drew ?_ | apply Below.st1)⟩
theorem clkMerge_any (g : Nat) (c : Clk) (s : Stamp) (w : World) (hc : CkAt w g c) (hk : c.Ok) :
 Calls Tryz.prog 153 #[.pointer (some ⟨g, 0, none⟩), .agg #[.int .i64 s.wall, .int .i64 s.logic, .int .i64 s.node]] w fun e w' => e = .returned (.int .i64 (mergeC c s).2) ∧ CkAt w' g (mergeC c s).1 ∧ Only (· = g) w w' := by
 have hgw : g < w.heap.size := hc.lt
 have hbx := (jb w.heap.size w).al (.cells #[.int .i64 s.wall, .int .i64 s.logic, .int .i64 s.node] 40)
 have hc1 : CkAt (w.alloc (.cells #[.int .i64 s.wall, .int .i64 s.logic, .int .i64 s.node] 40)) g c := Blk.alloc hc _
 have hS1 := Blk.new w 40 [.int .i64 s.wall, .int .i64 s.logic, .int .i64 s.node]
 have hn : (c.last.node == 0) = false := by rw [beq_eq_false_iff_ne]; have := hk.node; omega
 have C := clkGone_any g c _ hc1 hn
 have C2 := sound_any s (w.alloc (.cells #[.int .i64 s.wall, .int .i64 s.logic, .int .i64 s.node] 40))
 unfold Stamp.val at C2
 have HC := jh (ja hc1 (ja hS1 hbx))
 clear hc hc1 hn hS1 hbx
 go_enter Tryz.func153, Tryz.ntmps153
 go_wp2_with fail
 refine C.mono ?_
 clear C
 rintro e w' ⟨rfl, rfl⟩
 go_wp2_with fail
 refine C2.mono ?_
 clear C2
 rintro e w1 ⟨rfl, hb1⟩
 have H1 := jh (ja (show CkAt w1 g c from Blk.ext HC.out.1 hb1) (ja (HC.out.2.1.ext hb1) (HC.out.2.2.tr hb1)))
 clear HC hb1
 cases hs : soundB s
 ·have HS := jh (show mergeC c s = (c, 1) from by unfold mergeC; rw [if_pos hs])
  clear hs
  go_wp2_with fail
  go_ret
  rw [HS.out]
  exact ⟨rfl, H1.out.1, jo H1.out.2.2⟩
 have hsw : 0 ≤ s.wall ∧ s.wall ≤ 1125899906842624 := by unfold soundB withinB at hs; simp at hs; omega
 have HSB := jh hs
 clear hs
 obtain ⟨hs1, hs2⟩ := hsw
 obtain ⟨hr1, hr2⟩ := hk.reading
 have hwr : wrap64 (s.wall - c.reading) = s.wall - c.reading := wrap_in _ (by omega)
 have hlt := H1.out.1.lt
 have hlt2 := H1.out.2.1.lt
 have c0 := H1.out.1.cell 0
 have c1 := H1.out.1.cell 1
 have c3 := H1.out.1.cell 3
 have s0 := H1.out.2.1.cell 0
 have s2 := H1.out.2.1.cell 2
 simp only [Clk.cells, List.getElem?_cons_zero, List.getElem?_cons_succ] at c0 c1 c3 s0 s2
 have f0 := H1.out.2.1.frozen 2
 have hcase : (c.last.wall < s.wall ∧ 1000 < s.wall - c.reading) ∨ (c.last.wall < s.wall ∧ decide (1000 < s.wall - c.reading) = false) ∨ decide (c.last.wall < s.wall) = false := by
  by_cases h1 : c.last.wall < s.wall
  ·by_cases h2 : 1000 < s.wall - c.reading
   ·exact .inl ⟨h1, h2⟩
   ·exact .inr (.inl ⟨h1, jd h2⟩)
  ·exact .inr (.inr (jd h1))
 rcases hcase with ⟨h1, h2⟩ | ⟨h1, h2⟩ | h1
 ·have HS := jh (show mergeC c s = (c, 6) from by unfold mergeC; rw [if_neg (by rw [HSB.out]; simp), if_pos ⟨h1, h2⟩])
  go_wp2_with fail
  go_quiet (fail)
  go_wp2_with fail
  go_ret
  rw [HS.out]
  exact ⟨rfl, Blk.drewN H1.out.1 _, jo (H1.out.2.2.drewN _)⟩
 all_goals
  have HS := jh (show mergeC c s = ({ c with last := maxS c.last { s with node := c.last.node } }, 0) from by
   unfold mergeC; rw [if_neg (by rw [HSB.out]; simp), if_neg (by rintro ⟨a, b⟩; first | (simp at h1; omega) | (simp at h2; omega))])
  go_wp2_with fail
  go_quiet (fail)
  have c3' : (w1.drewN nq).cell? ⟨g, 3, none⟩ = some (.int .i64 c.last.node) := c3
  have s2' : (w1.drewN nq).cell? ⟨w.heap.size, 2, none⟩ = some (.int .i64 s.node) := s2
  have f0' : (w1.drewN nq).frozen? ⟨w.heap.size, 2, none⟩ = false := f0
  have H2 := jh (ja (show CkAt (w1.drewN nq) g c from Blk.drewN H1.out.1 nq) (ja (H1.out.2.1.drewN nq) (H1.out.2.2.drewN nq)))
  clear c0 c1 c3 s0 s2 f0 H1 hlt2
  generalize w1.drewN nq = w2 at *
  have hlt2 := H2.out.2.1.lt
  go_upto_region 6 with fail
  have H3 := jh (ja (show CkAt (w2.setCell ⟨w.heap.size, 2, none⟩ (.int .i64 c.last.node)) g c from Blk.far H2.out.1 (by simp; omega) _) (ja ((H2.out.2.1.set_ 2 (.int .i64 c.last.node)).to (cs' := [.int .i64 s.wall, .int .i64 s.logic, .int .i64 c.last.node]) rfl) (H2.out.2.2.st (p := ⟨w.heap.size, 2, none⟩) (Nat.le_refl _) (.int .i64 c.last.node))))
  clear c3' s2' f0' H2 hlt2
  generalize w2.setCell ⟨w.heap.size, 2, none⟩ (.int .i64 c.last.node) = w3 at *
  have hlt2 := H3.out.2.1.lt
  have y1 := On.cell (H3.out.1.cell 1 : w3.cell? ⟨g, 1, none⟩ = some (.int .i64 c.last.wall))
  have y2 := On.cell (H3.out.1.cell 2 : w3.cell? ⟨g, 2, none⟩ = some (.int .i64 c.last.logic))
  have y3 := On.cell (H3.out.1.cell 3 : w3.cell? ⟨g, 3, none⟩ = some (.int .i64 c.last.node))
  have z0 := On.cell (H3.out.2.1.cell 0 : w3.cell? ⟨w.heap.size, 0, none⟩ = some (.int .i64 s.wall))
  have z1 := On.cell (H3.out.2.1.cell 1 : w3.cell? ⟨w.heap.size, 1, none⟩ = some (.int .i64 s.logic))
  have z2 := On.cell (H3.out.2.1.cell 2 : w3.cell? ⟨w.heap.size, 2, none⟩ = some (.int .i64 c.last.node))
  refine wp_region_mix (.seg [0, 1, 2, 3, 4, 5] 6 (.seg [] 7 (.seg [] 8 (.last [9] 10)))) (fun w' => ∃ d : Wd (On w3), w' = d.w) (by kernel_rfl) (by kernel_rfl) (fun _ _ d _ _ h => by cases d <;> exact h) (ClsW.mk (jb _ _).drew) ?_
  unfold wpMix; simp only [pick, j1, j2, j3, j4]
  (repeat (show wpQuiet _ _ _ _ (_ :: _) _; go_big_quiet_step (fail))); refine qn ?_
  have B := (Blk.new w3 40 [.int .i64 c.last.wall, .int .i64 c.last.logic, .int .i64 c.last.node, .int .i64 s.wall, .int .i64 s.logic, .int .i64 c.last.node]).drew
  have hbn := ((jb w3.heap.size w3).al (.cells #[.int .i64 c.last.wall, .int .i64 c.last.logic, .int .i64 c.last.node, .int .i64 s.wall, .int .i64 s.logic, .int .i64 c.last.node] 40)).drew
  have CM := stampMax_any c.last { s with node := c.last.node } w3.heap.size 2 _ B.lt ⟨B.cell 0, B.cell 1, B.cell 2⟩ ⟨B.cell 3, B.cell 4, B.cell 5⟩
  have HBN := jh hbn
  clear B hbn
  go_wp2_with fail
  (refine segw (D := On w3) (by unfold On; repeat (with_reducible first | assumption | exact jb _ _ | refine Below.al ?_ _ | refine Below.drew ?_ | apply Below.st1)) ?_; unfold wpMix; simp only [pick, j1, j2, j3, j4]; (repeat (show wpQuiet _ _ _ _ (_ :: _) _; go_big_quiet_step (fail))); refine qn ?_)
  go_wp2_with fail
  refine CM.mono ?_
  clear CM
  rintro e w4 ⟨rfl, hb4⟩
  have H4 := jh (HBN.out.tr hb4)
  have B4 : CkAt w4 g c := Blk.ext H3.out.1 H4.out
  have hlt4 := B4.lt
  have hb4' := H4.out
  clear hb4
  go_wp2_with fail
  (refine segw (D := On w3) (hb4') ?_; unfold wpMix; simp only [pick, j1, j2, j3, j4]; (repeat (show wpQuiet _ _ _ _ (_ :: _) _; go_big_quiet_step (fail))); refine qn ?_)
  go_wp2_with fail
  (refine segw (D := On w3) (hb4') ?_; unfold wpMix; simp only [pick, j1, j2, j3, j4]; (repeat (show wpQuiet _ _ _ _ (_ :: _) _; go_big_quiet_step (fail))); refine qn ?_)
  clear y1 y2 y3 z0 z1 z2 hb4'
  have c1 := B4.cell 1
  have c2 := B4.cell 2
  have c3 := B4.cell 3
  simp only [Clk.cells, List.getElem?_cons_zero, List.getElem?_cons_succ] at c1 c2 c3
  have f1 := B4.frozen
  have HB4 := jh B4
  clear B4
  generalize maxS c.last { s with node := c.last.node } = x at *
  unfold Stamp.cells
  go_wp2_with fail
  dsimp only [wpList, SegQ]
  go_wp2_with fail
  go_ret
  rw [HS.out]
  refine ⟨rfl, ((((show Blk w4 g 232 c.cells from HB4.out).set_ 1 _).set_ 2 _).set_ 3 _).to rfl, ?_⟩
  refine Only.trans (F := (· = g)) (G := (· = g)) (jo (H3.out.2.2.tr H4.out)) ?_ (fun k _ h => h)
  repeat (refine Only.tr ?_ (Only.set_ (by simp) _))
  exact Only.refl _ _
end Go.Proofs.YtcmjgghkmdbphaaGreatDoor
namespace Go.Proofs.YtcmjgghkmdbphaaGreatDoor
open Go.RowKit
theorem Rep.Row.only {α : Type} {R : Rep α} {w w' : World} {P F : Nat → Prop} {A : Option Addr} {l : List α} (h : R.Row w P A l) (hO : Only F w w') (hP : ∀ k, P k → ¬ F k) : R.Row w' P A l := h.same (Same.of_only hO hP) hO.size
end Go.Proofs.YtcmjgghkmdbphaaGreatDoor
namespace Go.Proofs.YtcmjgghkmdbphaaGreatDoor
open Go.RowKit
theorem MpAt.one {κ β : Type} {enc : κ → Value} {R : Rep β} {V : List Value → Value} {w : World} {P : Nat → Prop} {v : Value} {l : List (κ × β)} (h : MpAt enc R V w P v l) : v.oneCell' = true := by
 rcases h.2 with ⟨e, _⟩ | ⟨m, _, e, _⟩ <;> rw [e] <;> rfl
theorem StIn.one {w : World} {P : Nat → Prop} {s : St} {v : SV} (h : StIn w P s v) : (s.cells v).all (·.oneCell') = true := by
 have h1 := RangeR.sl.one h.ring v.ring (by simp)
 have h2 := RecR.sl.one h.frozen v.frozen (by simp)
 have h3 := EventR.sl.one h.log v.log (by simp)
 have h4 := h.held.one
 have h5 := h.outcomes.one
 have h6 := h.decided.one
 unfold St.cells ptrV
 simp only [List.all_cons, List.all_nil, Bool.and_true, h1, h2, h3, h4, h5, h6]
 rfl
theorem tried_any (g : Nat) (s : St) (r : Rec) (hK : r.kind = 3 ∨ r.kind = 9 ∨ r.kind = 10 ∨ r.kind = 11) (nA pA sA : Option Addr) (nc pc sc : Nat) (P Q : Nat → Prop) (w : World) (h : StAt w P g s) (hS : Fit s)
 (hr : RecAt w Q r nA nc pA pc sA sc) (hF : r.Fair) (hT : Tabs w) (_h2 : 2 ≤ w.heap.size) (hP : PutFair r.streams) (hrl : s.ring.length ≤ 300) (hfl : (freshT s.table).length ≤ 40000) :
 Calls Tryz.prog 141 #[ptrV g, .agg (r.cells nA nc pA pc sA sc).toArray] w fun e w' => e = .returned (.int .i64 (applyS s r).2) ∧ Below w.heap.size w w' := by
 have hgl := h.lt
 obtain ⟨v, hB, hI⟩ := h
 have HI := jh (ja hI (ja hB (ja hr hT)))
 have HR := jh (ja hS (ja hF (ja hP (ja hrl hfl))))
 clear hI hr hT hS hF hP hrl hfl hB
 have hb1 := (jb w.heap.size w).al (.cells (r.cells nA nc pA pc sA sc).toArray 46)
 have B0 := Blk.new w 46 (r.cells nA nc pA pc sA sc)
 have hs1 : (w.alloc (.cells (r.cells nA nc pA pc sA sc).toArray 46)).heap.size = w.heap.size + 1 := by simp
 unfold ptrV
 go_enter Tryz.func141, Tryz.ntmps141
 go_upto_region 1 with fail
 refine forget (M := fun W => Code.wp _ _ _ _ W) (fun W => Below w.heap.size w W ∧ Blk W w.heap.size 46 (r.cells nA nc pA pc sA sc) ∧ W.heap.size = w.heap.size + 1) ⟨hb1, B0, hs1⟩ ?_
 clear B0 hb1 hs1
 rintro w1 ⟨hb1, B0, hs1⟩
 have H1 := jh (ja hb1 (ja B0 (HI.out.2.1.ext hb1)))
 have hs1' : w.heap.size < w1.heap.size := by omega
 have HS1 := jh hs1
 clear hb1 B0 hs1
 have x0 := H1.out.2.2.cell 0
 go_upto_region 4 with (first
  | (refine wpList_load_blk (cs := s.cells v) rfl rfl rfl H1.out.2.2 Tryz.underlying176 rfl (by kernel_rfl) ?_)
  | (refine wpList_store_new (cs := (s.cells v).toArray) rfl rfl rfl rfl rfl (by kernel_rfl) rfl (by simpa using HI.out.1.one) ?_)
  | fail)
 have hb2 := (jb w1.heap.size w1).al (.cells (s.cells v).toArray 176)
 have hw2 := H1.out.1.tr hb2
 have hst : StAt (w1.alloc (.cells (s.cells v).toArray 176)) (fun k => P k ∧ k < w.heap.size) w1.heap.size s := ⟨v, Blk.new w1 176 (s.cells v), HI.out.1.low.same (js hw2)⟩
 have hrec := (HI.out.2.2.1.mono fun k h h' => (⟨h, h'⟩ : Q k ∧ k < w.heap.size)).ext (js hw2) hw2.size
 have CA := applyH_any w1.heap.size s r hK nA pA sA nc pc sc _ _ _ hst (fun h => by have := h.2; omega) HR.out.1 hrec (fun h => by have := h.2; omega) HR.out.2.1 (HI.out.2.2.2.below hw2) (by omega) HR.out.2.2.1 HR.out.2.2.2.1 HR.out.2.2.2.2
 unfold StOut ptrV at CA
 have B2 := H1.out.2.1.ext hb2
 have HW := jh hw2
 clear hst hrec hb2 hw2 x0
 generalize w1.alloc (.cells (s.cells v).toArray 176) = w2 at *
 go_wp2_with (first
  | (refine wpList_load_blk (cs := r.cells nA nc pA pc sA sc) rfl rfl rfl B2 Tryz.underlying46 rfl (by kernel_rfl) ?_)
  | fail)
 refine CA.mono ?_
 clear CA
 rintro e w3 ⟨rfl, _, hO⟩
 have HO := jh hO
 clear hO
 go_wp2_with fail
 go_ret
 exact ⟨rfl, HW.out.trans (HO.out.low (fun k e => by have e' : k = w1.heap.size := e; omega) HW.out.size)⟩
end Go.Proofs.YtcmjgghkmdbphaaGreatDoor
namespace Go.Proofs.YtcmjgghkmdbphaaGreatDoor
open Go.RowKit
def GotStN (B : Nat) (l : List Stream) (e : Ending) (w' : World) : Prop := ∃ A c, e = .returned (.slice A l.length c) ∧ StreamR.Row w' (fun k => B ≤ k) A l
def GotStB (B : Nat) (l : List Stream) (e : Ending) (w' : World) : Prop := ∃ A c, e = .returned (.slice A l.length c) ∧ (l.length ≤ c ∧ c ≤ 9223372036854775807) ∧ StreamR.Row w' (fun k => B ≤ k) A l
theorem stakeB_any (g : Nat) (s : St) (r : Range) (P : Nat → Prop) (w : World) (h : StAt w P g s) (hS : Fit s) :
 Calls Tryz.prog 27 #[ptrV g, .agg #[.int .i64 r.first, .int .i64 r.last, .int .i64 r.owner, .int .i64 r.epoch]] w fun e w' => GotStB w.heap.size (takeT s.table r) e w' ∧ Below w.heap.size w w' := by
 obtain ⟨v, hB, hI⟩ := h
 have hb0 := (jb w.heap.size w).al (.cells #[.int .i64 r.first, .int .i64 r.last, .int .i64 r.owner, .int .i64 r.epoch] 27)
 have B0 := Blk.new w 27 [.int .i64 r.first, .int .i64 r.last, .int .i64 r.owner, .int .i64 r.epoch]
 unfold ptrV
 have HH := jh (ja hB hI.table)
 clear hB hI
 go_enter Tryz.func27, Tryz.ntmps27
 go_upto_region 1 with fail
 generalize hw1 : (w.alloc (.cells #[.int .i64 r.first, .int .i64 r.last, .int .i64 r.owner, .int .i64 r.epoch] 27)) = w1 at *
 clear hw1
 have C1 := gone_any g s.self w1 ((HH.out.1.ext hb0).cell 0) hS.self
 have C2 := take_any v.tb s.table r P w1.drew (HH.out.2.ext hb0.drew) hS.fair.len hS.fair.each
 unfold ptrV Range.val at C2
 unfold ptrV at C1
 have y5 := On.cell ((HH.out.1.ext hb0).cell 5 : w1.cell? ⟨g, 5, none⟩ = some (.pointer (some ⟨v.tb, 0, none⟩)))
 have z0 := On.cell (B0.cell 0 : w1.cell? ⟨w.heap.size, 0, none⟩ = some (.int .i64 r.first))
 have z1 := On.cell (B0.cell 1 : w1.cell? ⟨w.heap.size, 1, none⟩ = some (.int .i64 r.last))
 have z2 := On.cell (B0.cell 2 : w1.cell? ⟨w.heap.size, 2, none⟩ = some (.int .i64 r.owner))
 have z3 := On.cell (B0.cell 3 : w1.cell? ⟨w.heap.size, 3, none⟩ = some (.int .i64 r.epoch))
 have hlo := jb w1.heap.size w1
 have HB0 := jh hb0
 clear B0 hb0 hS
 go_wp2_with fail
 refine C1.mono ?_
 clear C1
 rintro e w' ⟨rfl, rfl⟩
 go_upto_region 3 with fail
 refine wp_region_mix (.seg [0, 1, 2, 3, 4] 5 (.leaf [6])) (fun w' => ∃ d : Wd (On w1), w' = d.w) (by kernel_rfl) (by kernel_rfl) (fun _ _ d _ _ h => by cases d <;> exact h) (ClsW.mk hlo.drew) ?_
 unfold wpMix; simp only [pick, j1, j2, j3, j4]
 (repeat (show wpQuiet _ _ _ _ (_ :: _) _; go_big_quiet_step (fail))); refine qn ?_
 go_wp2_with fail
 refine C2.mono ?_
 clear C2
 rintro e w3 ⟨⟨v3, rfl, ho⟩, hb3'⟩
 have hb3 : Below w1.heap.size w1 w3 := hlo.drew.tr hb3'
 obtain ⟨A3, c3, rfl, hcc⟩ := ho.form
 have HCC := jh hcc
 clear hcc
 have HO := jh (ja ((ho.row (fun _ h => h)).mono (Q := fun k => w.heap.size ≤ k) fun k hk _ => by have h1 : w1.drew.heap.size = w1.heap.size := rfl; have := HB0.out.size; omega) (HB0.out.tr hb3))
 clear ho hb3'
 go_wp2_with fail
 (refine segw (D := On w1) (hb3) ?_; unfold wpMix; simp only [pick, j1, j2, j3, j4]; (repeat (show wpQuiet _ _ _ _ (_ :: _) _; go_big_quiet_step (fail))); refine qn ?_)
 clear y5 z0 z1 z2 z3 hb3 hlo
 go_wp2_with fail
 go_ret
 exact ⟨⟨_, _, rfl, HCC.out, HO.out.1⟩, HO.out.2⟩
theorem stakeN_any (g : Nat) (s : St) (r : Range) (P : Nat → Prop) (w : World) (h : StAt w P g s) (hS : Fit s) :
 Calls Tryz.prog 27 #[ptrV g, .agg #[.int .i64 r.first, .int .i64 r.last, .int .i64 r.owner, .int .i64 r.epoch]] w fun e w' => GotStN w.heap.size (takeT s.table r) e w' ∧ Below w.heap.size w w' :=
 (stakeB_any g s r P w h hS).mono fun _ _ h => ⟨by obtain ⟨A, c, e, _, hr⟩ := h.1; exact ⟨A, c, e, hr⟩, h.2⟩
end Go.Proofs.YtcmjgghkmdbphaaGreatDoor
namespace Go.Proofs.YtcmjgghkmdbphaaGreatDoor
open Go.RowKit
theorem inR_all (n : Str) : inR allHashes n = true := by
 have h := hash_bd n.data.toList
 unfold inR Range.has allHashes hashS
 simp
 omega
theorem take_sub {T : Tab} {r : Range} {x : Stream} (h : x ∈ takeT T r) : x ∈ takeT T allHashes := by
 unfold takeT someT at h ⊢
 obtain ⟨n, hn, rfl⟩ := List.mem_map.1 h
 exact List.mem_map.2 ⟨n, List.mem_filter.2 ⟨(List.mem_filter.1 hn).1, inR_all n⟩, rfl⟩
def weighS (x : Stream) : Int := 300 + 1300 * x.events.length + 250 * x.keys.length
def weighsS (l : List Stream) : Int := (l.map weighS).sum
theorem weighS_nn (x : Stream) : 0 ≤ weighS x := by unfold weighS; omega
theorem weighsS_take {l : List Stream} {k : Nat} (h : k < l.length) : weighsS (l.take (k + 1)) = weighsS (l.take k) + weighS l[k] := by
 unfold weighsS; rw [take_snoc l k h, List.map_append, List.sum_append]; simp
theorem weighsS_le (l : List Stream) (hl : ∀ x ∈ l, x.events.length ≤ 40000 ∧ x.keys.length ≤ 40000) (hn : l.length ≤ 40000) (k : Nat) : 0 ≤ weighsS (l.take k) ∧ weighsS (l.take k) ≤ 100000000 * 40000 := by
 have key : ∀ m : List Stream, (∀ x ∈ m, x.events.length ≤ 40000 ∧ x.keys.length ≤ 40000) → 0 ≤ weighsS m ∧ weighsS m ≤ 100000000 * (m.length : Int) := by
  intro m
  induction m with
  | nil => intro _; exact ⟨Int.le_refl _, by simp [weighsS]⟩
  | cons a m ih =>
    intro h
    have h1 := ih fun x hx => h x (by simp [hx])
    have h2 := h a (by simp)
    have h3 : weighsS (a :: m) = weighS a + weighsS m := by simp [weighsS]
    have h4 : weighS a ≤ 100000000 := by unfold weighS; omega
    have h5 := weighS_nn a
    rw [h3, List.length_cons]
    constructor
    ·omega
    ·push_cast; omega
 have h := key (l.take k) fun x hx => hl x (List.mem_of_mem_take hx)
 have h2 : (l.take k).length ≤ 40000 := by rw [List.length_take]; omega
 exact ⟨h.1, by omega⟩
def weighs (s : St) (r : Range) : Int := weighsS (takeT s.table r) + 400000 * s.held.length
def wS (x : Stream) : Nat := if streamB x = true then lenS x else 0
def wB (b : Batch) : Nat := if checkB b = 0 then lenB b else 0
def wSs (l : List Stream) : Nat := (l.map wS).sum
def wHs (l : List Held) : Nat := (l.map fun h => wB h.batch).sum
def weighX (s : St) (r : Range) : Int := wSs (takeT s.table r) + wHs (s.held.map (·.2))
theorem wS_le (x : Stream) : (wS x : Int) ≤ weighS x := by
 unfold wS weighS
 split
 ·rename_i h; have := (lenS_bd h).2; omega
 ·omega
theorem wB_le (b : Batch) : wB b ≤ 400000 := by
 unfold wB; split
 ·rename_i h; exact (lenB_bd h).2
 ·omega
theorem wSs_le : ∀ l : List Stream, (wSs l : Int) ≤ weighsS l
 | [] => by simp [wSs, weighsS]
 | a :: l => by
   have h1 := wSs_le l
   have h2 := wS_le a
   have e1 : wSs (a :: l) = wS a + wSs l := by simp [wSs]
   have e2 : weighsS (a :: l) = weighS a + weighsS l := by simp [weighsS]
   rw [e1, e2]; omega
theorem wHs_le : ∀ l : List Held, wHs l ≤ 400000 * l.length
 | [] => by simp [wHs]
 | a :: l => by
   have h1 := wHs_le l
   have h2 := wB_le a.batch
   have e1 : wHs (a :: l) = wB a.batch + wHs l := by simp [wHs]
   rw [e1, List.length_cons]; omega
theorem weighX_le (s : St) (r : Range) : 0 ≤ weighX s r ∧ weighX s r ≤ weighs s r := by
 unfold weighX weighs
 have h1 := wSs_le (takeT s.table r)
 have h2 := wHs_le (s.held.map (·.2))
 rw [List.length_map] at h2
 omega
theorem wSs_take {l : List Stream} {k : Nat} (h : k < l.length) : wSs (l.take (k + 1)) = wSs (l.take k) + wS l[k] := by
 unfold wSs; rw [take_snoc l k h, List.map_append, List.sum_append]; simp
theorem wHs_take {l : List Held} {k : Nat} (h : k < l.length) : wHs (l.take (k + 1)) = wHs (l.take k) + wB l[k].batch := by
 unfold wHs; rw [take_snoc l k h, List.map_append, List.sum_append]; simp
theorem wHs_perm {a b : List Held} (h : List.Perm a b) : wHs a = wHs b := (h.map _).sum_nat
theorem weight_ex (g : Nat) (s : St) (r : Range) (P : Nat → Prop) (w : World) (h : StAt w P g s) (hS : Fit s) (hl : s.held.length ≤ 40000) (hT : Tabs w) (_h2 : 2 ≤ w.heap.size) :
 Calls Tryz.prog 46 #[ptrV g, .agg #[.int .i64 r.first, .int .i64 r.last, .int .i64 r.owner, .int .i64 r.epoch]] w fun e w' => e = .returned (.int .i64 (weighX s r)) ∧ Below w.heap.size w w' := by
 have hb0 := (jb w.heap.size w).al (.cells #[.int .i64 r.first, .int .i64 r.last, .int .i64 r.owner, .int .i64 r.epoch] 27)
 have HST := jh (fun W (hW : Below w.heap.size w W) => (show StAt W P g s from by obtain ⟨v, a, b⟩ := h; exact ⟨v, a.ext hW, b.same (js hW)⟩))
 have CT := stakeN_any g s r P _ (HST.out _ hb0) hS
 have hfew : ∀ x ∈ takeT s.table r, x.events.length ≤ 40000 ∧ x.keys.length ≤ 40000 := fun x hx => hS.fair.put.2 x (take_sub hx)
 have hlen : (takeT s.table r).length ≤ 40000 := Nat.le_trans (by
  unfold takeT; rw [List.length_map]
  have h1 : (someT s.table r).length ≤ (sortS (s.table.map (·.1))).length := List.length_filter_le _ _
  rw [sortS_len, List.length_map] at h1
  exact h1) hS.fair.len
 have HF := jh (ja hS (ja hl (ja hT (ja hfew (ja hlen hb0)))))
 clear h hS hl hT hfew hlen hb0
 unfold GotStN ptrV at CT
 unfold ptrV
 go_enter Tryz.func46, Tryz.ntmps46
 go_wp2_with fail
 refine CT.mono ?_
 clear CT
 rintro e w1 ⟨⟨A, c, rfl, hrow⟩, hb1⟩
 have hw1 := HF.out.2.2.2.2.2.tr hb1
 have HR := jh (ja hrow hw1)
 clear hrow hb1 hw1
 have hL := HF.out.2.2.2.2.1
 have HWS := jh (weighsS_le (takeT s.table r) HF.out.2.2.2.1 hL)
 have HWX := jh (show weighX s r = wSs (takeT s.table r) + wHs (s.held.map (·.2)) from rfl)
 have HFW := jh HF.out.2.2.2.1
 generalize takeT s.table r = l at *
 go_wp2_with fail
 go_loopw [4, 13] (fun nv iv wr => ∃ (k : Nat) (m : Int), k ≤ l.length ∧ iv = .int .i64 k ∧ nv = .int .i64 m ∧ 0 ≤ m ∧ m ≤ weighsS (l.take k) ∧ Below w1.heap.size w1 wr ∧ Hid (m = wSs (l.take k))) (fun _ iv _ => l.length - (intOf iv).toNat)
 case atStart => exact ⟨0, 0, Nat.zero_le _, rfl, rfl, Int.le_refl _, by simp [weighsS], jb _ _, jh (by simp [wSs])⟩
 case round =>
  obtain ⟨k, m, hk, rfl, rfl, hm0, hm1, hbl, HMX⟩ := hrel
  have hzr := hbl.size
  have hbd := HWS.out k
  by_cases hlt : k < l.length
  ·have hlt' : (k : Int) < l.length := by omega
   have hlk := jg hlt
   have hfx := HFW.out _ (List.getElem_mem hlt)
   have hws := weighsS_take hlt
   have HXT := wSs_take hlt
   have hbd2 := HWS.out (k + 1)
   obtain ⟨b, o, cs, rfl, _, hbw, hrep, hcs⟩ := (HR.out.1.ext hbl).at_ hlk
   generalize l[k] = x at *
   replace HXT := jh HXT
   obtain ⟨eA, ec, kA, kc, rfl, hn, _, _, hev, _, _, hkr⟩ := stream_rep.1 hrep
   have c0 := hcs 0 _ rfl
   have c1 := hcs 1 _ rfl
   have c2 := hcs 2 _ rfl
   have hsz : StreamR.size = 3 := rfl
   simp only [hsz, Nat.add_zero] at c0 c1 c2
   have hbx := (jb wr.heap.size wr).al (.cells #[.string x.name, .slice eA x.events.length ec, .slice kA x.keys.length kc] 199)
   have CE := encodeS_ex x eA kA ec kc _ (wr.alloc (.cells #[.string x.name, .slice eA x.events.length ec, .slice kA x.keys.length kc] 199)) hn (hev.ext hbx) (hkr.ext hbx) hfx.1 hfx.2 (HF.out.2.2.1.below (HR.out.2.tr (hbl.tr hbx))) (by have := HR.out.2.size; simp; omega)
   have HX := jh (ja hws (hbl.tr hbx))
   have hwx : weighS x = 300 + 1300 * x.events.length + 250 * x.keys.length := rfl
   clear hlk hrep hcs hev hkr hbx hsz hfx
   rw [hws] at hbd2
   have HB2 := jh (ja hbd hbd2)
   have hx1 : m ≤ 4000000000000 := by omega
   have hx2 : (300 : Int) + 1300 * x.events.length + 250 * x.keys.length ≤ 4000000000000 := by omega
   have HM := jh (ja hm1 hwx)
   clear hbd hbd2 hm1 hwx hws
   cases hsb : streamB x
   ·rw [hsb] at CE
    have HW0 := jh (show wS x = 0 by unfold wS; rw [hsb]; rfl)
    clear hsb
    go_wp2_with fail
    refine CE.mono ?_
    clear CE c0 c1 c2
    rintro e w2 ⟨he, hb2⟩
    obtain rfl := he.out0
    have HB := jh (HX.out.2.tr hb2)
    clear hb2 he
    have hwp : wrap64 (m + 0) = m := by rw [Int.add_zero]; exact wrap_in _ (by omega)
    go_wp2_with fail
    go_round
    case rel => exact ⟨k + 1, m, by omega, by go_num, by first | rfl | (rw [show m + 0 = m by omega]), hm0, by rw [HX.out.1]; have h1 := HM.out.1; have h2 := weighS_nn x; omega, HB.out, jh (by have q1 := HMX.out; have q2 := HXT.out; have q3 := HW0.out; omega)⟩
    case measure => simp [intOf]; omega
   ·rw [hsb] at CE
    have HW0 := jh (show wS x = lenS x by unfold wS; rw [hsb]; rfl)
    have HLB := jh (lenS_bd hsb)
    clear hsb
    go_wp2_with fail
    refine CE.mono ?_
    clear CE c0 c1 c2
    rintro e w2 ⟨he, hb2⟩
    obtain ⟨rv, nn, rfl, hbt, hnx1, hnx2⟩ := he.out1
    have HYtcmjgghkmdbphaaGreatDoor := jh (show nn = lenS x by omega)
    have hn1 : 1 ≤ nn := by have := HLB.out; omega
    have hn2 : nn ≤ 300 + 1300 * x.events.length + 250 * x.keys.length := by have := HLB.out; omega
    clear hnx1 hnx2
    obtain ⟨Av, cv, rfl, _⟩ := hbt.form
    have HB := jh (HX.out.2.tr hb2)
    have hnn : (nn : Int) ≤ 300 + 1300 * x.events.length + 250 * x.keys.length := by omega
    clear hb2 he hbt
    have hwp : wrap64 (m + nn) = m + nn := wrap_in _ (by omega)
    go_wp2_with fail
    go_round
    case rel => exact ⟨k + 1, m + nn, by omega, by go_num, rfl, by omega, by rw [HX.out.1]; have h1 := HM.out.1; have h2 := HM.out.2; omega, HB.out, jh (by have q1 := HMX.out; have q2 := HXT.out; have q3 := HW0.out; have q4 := HYtcmjgghkmdbphaaGreatDoor.out; omega)⟩
    case measure => simp [intOf]; omega
  ·have hkn : k = l.length := by omega
   subst hkn
   rw [List.take_length] at hbd hm1 HMX
   have CH := sheld_any g s P wr (HST.out wr (HR.out.2.tr hbl)) HF.out.1.self HF.out.1.held (by have := HF.out.2.1; omega)
   unfold GotHelds ptrV at CH
   have HM := jh (ja hm1 (ja hbd (HR.out.2.tr hbl)))
   have hm9 : m ≤ 4000000000000 := by omega
   clear hm1 hbd hbl
   go_wp2_with fail
   refine CH.mono ?_
   clear CH
   rintro e w2 ⟨⟨v, hs, rfl, hp, ho⟩, hb2⟩
   have HPM := jh hp
   have hln : hs.length = s.held.length := by rw [hp.length_eq, List.length_map]
   have hfit : ∀ x ∈ hs, HeldFit x := fun x hx => by
    obtain ⟨q, hq, e⟩ := List.mem_map.1 (hp.subset hx)
    rw [← e]; exact HF.out.1.held q hq
   have hlq : hs.length ≤ 40000 := by rw [hln]; exact HF.out.2.1
   obtain ⟨Ah, ch, rfl, _⟩ := ho.form
   have HH := jh (ja (ho.row (S := fun k => _ ≤ k) fun _ h => h) (ja hfit (ja hln (HM.out.2.2.tr hb2))))
   clear hp ho hb2 hfit hln
   go_wp2_with fail
   go_loopw [4, 26] (fun nv iv wq => ∃ (k : Nat) (q : Int), k ≤ hs.length ∧ iv = .int .i64 k ∧ nv = .int .i64 q ∧ 0 ≤ q ∧ q ≤ m + 400000 * k ∧ Below w2.heap.size w2 wq ∧ Hid (q = m + wHs (hs.take k))) (fun _ iv _ => hs.length - (intOf iv).toNat)
   case atStart => exact ⟨0, m, Nat.zero_le _, rfl, rfl, hm0, by omega, jb _ _, jh (by simp [wHs])⟩
   case round =>
    obtain ⟨k, q, hk, rfl, rfl, hq0, hq1, hbl, HQX⟩ := hrel
    have hzq := hbl.size
    by_cases hlt : k < hs.length
    ·have hlt' : (k : Int) < hs.length := by omega
     have hlk := jg hlt
     have hfx := HH.out.2.1 _ (List.getElem_mem hlt)
     obtain ⟨b, o, cs, rfl, _, hbw, hrep, hcs⟩ := (HH.out.1.ext hbl).at_ hlk
     have HXT := wHs_take hlt
     generalize hs[k] = x at *
     replace HXT := jh HXT
     obtain ⟨pA, pc, fA, fc, rfl, _, hk1, _, k4, _⟩ := held_rep.1 hrep
     unfold Held.cellsV at hcs
     have c0 := hcs 0 _ rfl
     have c1 := hcs 1 _ rfl
     have c2 := hcs 2 _ rfl
     have c3 := hcs 3 _ rfl
     have c4 := hcs 4 _ rfl
     have c5 := hcs 5 _ rfl
     have c6 := hcs 6 _ rfl
     have c7 := hcs 7 _ rfl
     have c8 := hcs 8 _ rfl
     have hsz : HeldR.size = 9 := rfl
     simp only [hsz, Nat.add_zero] at c0 c1 c2 c3 c4 c5 c6 c7 c8
     have hbx := (jb wr.heap.size wr).al (.cells #[.int .i64 x.tx.node, .int .i64 x.tx.life, .int .i64 x.tx.num, .string x.batch.key, .slice pA x.batch.puts.length pc, .int .i64 x.stamp.wall, .int .i64 x.stamp.logic, .int .i64 x.stamp.node, .slice fA x.firsts.length fc] 192)
     have CE := encodeB_ex x.batch pA pc _ (wr.alloc (.cells #[.int .i64 x.tx.node, .int .i64 x.tx.life, .int .i64 x.tx.num, .string x.batch.key, .slice pA x.batch.puts.length pc, .int .i64 x.stamp.wall, .int .i64 x.stamp.logic, .int .i64 x.stamp.node, .slice fA x.firsts.length fc] 192)) (k4.2.2.ext hbx) (by have := hfx.few; omega) hk1 (fun p hp => by have := (hfx.data p hp).1; omega) (HF.out.2.2.1.below (HH.out.2.2.2.tr (hbl.tr hbx))) (by have := HH.out.2.2.2.size; simp; omega)
     have HX := jh (hbl.tr hbx)
     clear hlk hrep hcs k4 hbx hsz hfx
     cases hsb : decide (checkB x.batch = 0)
     ·rw [hsb] at CE
      have HW0 := jh (show wB x.batch = 0 by unfold wB; rw [if_neg (of_decide_eq_false hsb)])
      clear hsb
      go_wp2_with fail
      refine CE.mono ?_
      clear CE c0 c1 c2 c3 c4 c5 c6 c7 c8
      rintro e w3 ⟨he, hb3⟩
      obtain rfl := he.out0
      have HB := jh (HX.out.tr hb3)
      clear hb3 he
      have hwp : wrap64 (q + 0) = q := by rw [Int.add_zero]; exact wrap_in _ (by omega)
      go_wp2_with fail
      go_round
      case rel => exact ⟨k + 1, q, by omega, by go_num, by first | rfl | (rw [show q + 0 = q by omega]), hq0, by omega, HB.out, jh (by have q1 := HQX.out; have q2 := HXT.out; have q3 := HW0.out; omega)⟩
      case measure => simp [intOf]; omega
     ·rw [hsb] at CE
      have HW0 := jh (show wB x.batch = lenB x.batch by unfold wB; rw [if_pos (of_decide_eq_true hsb)])
      have HLB := jh (lenB_bd (of_decide_eq_true hsb))
      clear hsb
      go_wp2_with fail
      refine CE.mono ?_
      clear CE c0 c1 c2 c3 c4 c5 c6 c7 c8
      rintro e w3 ⟨he, hb3⟩
      obtain ⟨rv, nn, rfl, hbt, hnx1, hnx2⟩ := he.out1
      have HYtcmjgghkmdbphaaGreatDoor := jh (show nn = lenB x.batch by omega)
      have hn1 : 1 ≤ nn := by have := HLB.out; omega
      have hn2 : nn ≤ 400000 := by have := HLB.out; omega
      clear hnx1 hnx2
      obtain ⟨Av, cv, rfl, _⟩ := hbt.form
      have HB := jh (HX.out.tr hb3)
      have hnn : (nn : Int) ≤ 400000 := by omega
      clear hb3 he hbt
      have hwp : wrap64 (q + nn) = q + nn := wrap_in _ (by omega)
      go_wp2_with fail
      go_round
      case rel => exact ⟨k + 1, q + nn, by omega, by go_num, rfl, by omega, by omega, HB.out, jh (by have q1 := HQX.out; have q2 := HXT.out; have q3 := HW0.out; have q4 := HYtcmjgghkmdbphaaGreatDoor.out; omega)⟩
      case measure => simp [intOf]; omega
    ·have hkn : k = hs.length := by omega
     subst hkn
     have HB := jh hbl
     clear hbl
     have HQ := jh (show q = weighX s r by
      have q1 := HQX.out
      rw [List.take_length] at q1
      have q2 := HMX.out
      rw [HWX.out, ← wHs_perm HPM.out]; omega)
     go_wp2_with fail
     go_ret
     refine ⟨?_, HH.out.2.2.2.tr HB.out⟩
     rw [← HQ.out]; rfl
end Go.Proofs.YtcmjgghkmdbphaaGreatDoor
