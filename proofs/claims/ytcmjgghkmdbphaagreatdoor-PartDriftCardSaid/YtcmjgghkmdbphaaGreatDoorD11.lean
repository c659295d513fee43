/- state: known. An owned slice, one cell of one element set; a held batch in memory of its own. -/
import Derived.Test.YtcmjgghkmdbphaaGreatDoorD10
import Derived.Laws.StructEq
import Derived.Deep.DeepCutAuto
import Derived.Test.YtcmjgghkmdbphaaGreatDoorD08
import Derived.Test.YtcmjgghkmdbphaaGreatDoorD02
import Derived.Test.YtcmjgghkmdbphaaGreatDoorD07
set_option maxRecDepth 20000
set_option maxHeartbeats 25600000
namespace Go.Proofs.YtcmjgghkmdbphaaGreatDoor
open Go.RowKit
theorem knownL_drop (T : Tab) (k : Str) (l : List Put) (j : Nat) (a : List Int × Known × Bool) (h : j < l.length) : knownL T k (l.drop j) a =
 if (knownT T l[j].stream k).2 then knownL T k (l.drop (j + 1)) (a.1 ++ [(knownT T l[j].stream k).1.first], (if a.1.length = 0 then (knownT T l[j].stream k).1 else a.2.1), a.2.2 || decide ((knownT T l[j].stream k).1.stamp ≠ (if a.1.length = 0 then (knownT T l[j].stream k).1 else a.2.1).stamp))
 else knownL T k (l.drop (j + 1)) a := by
 rw [List.drop_eq_getElem_cons h]; rfl
theorem int_plain : IntR.Plain := fun _ _ _ _ _ _ h => h
def Got3 (B : Nat) (q : List Int × Known × Int) (e : Ending) (w' : World) : Prop :=
 ∃ v, e = .returned (.tuple #[v, .agg #[.string q.2.1.key, .int .i64 q.2.1.first, .int .i64 q.2.1.stamp.wall, .int .i64 q.2.1.stamp.logic, .int .i64 q.2.1.stamp.node], .int .i64 q.2.2]) ∧ IntR.Own w' B 3 (fun _ => False) v q.1
theorem results_mid {P : Program} {fn : Func} {p u z : Tmp} {ty : TypeId} (h : fn.results = #[.tmp z, .cell p ty, .tmp u]) (tmps : Array Value) {w : World} {g : Nat} {t : TypeId} {cs : List Value} {d : TypeDesc}
 (hg : Blk w g t cs) (hp : tmps.getD p undef = .pointer (some ⟨g, 0, none⟩))
 (hu : P.underlying ty = some d) (hd : (match d with | .struct _ | .array _ _ => true | _ => false) = true) (hi : (P.info? ty).map (·.size) = some cs.length) :
 (results fn tmps).run P w = .ok (.tuple #[tmps.getD z undef, .agg cs.toArray, tmps.getD u undef]) w := by
 have hr := run_loadVar_row (P := P) w g t ty cs.toArray (0, 0) d hg hu hd (by simpa using hi)
 have hp' : tmps[p]?.getD undef = .pointer (some ⟨g, 0, none⟩) := by simpa using hp
 simp [results, h, hp', asAddr, hr]
def KnB (g : Nat) (x : Known) (W : World) : Prop := Blk W g 49 x.cells
section
variable {g : Nat} {x : Known}
theorem KnB.c0 (d : Wd (KnB g x)) : d.w.cell? ⟨g, 0, none⟩ = some (.string x.key) := Blk.cell d.ok 0
theorem KnB.c1 (d : Wd (KnB g x)) : d.w.cell? ⟨g, 1, none⟩ = some (.int .i64 x.first) := Blk.cell d.ok 1
theorem KnB.c2 (d : Wd (KnB g x)) : d.w.cell? ⟨g, 2, none⟩ = some (.int .i64 x.stamp.wall) := Blk.cell d.ok 2
theorem KnB.c3 (d : Wd (KnB g x)) : d.w.cell? ⟨g, 3, none⟩ = some (.int .i64 x.stamp.logic) := Blk.cell d.ok 3
theorem KnB.c4 (d : Wd (KnB g x)) : d.w.cell? ⟨g, 4, none⟩ = some (.int .i64 x.stamp.node) := Blk.cell d.ok 4
end
theorem wpList_store_blk {P : Program} {ops : Array Oper} {rest : List Oper} {o : Oper} {a : Act} {w : World} {Q : Exit → Act → World → Prop} (hgd : o.guard = none) (hdst : o.dst = none) {ty : TypeId} {x y : Operand} (ho : o.op = .store ty x y) {g : Nat} {t : TypeId} {old cs : List Value} (hx : a.eval x = .pointer (some ⟨g, 0, none⟩)) (hy : a.eval y = .agg cs.toArray)
 (hB : Blk w g t old) (hi : (P.info? ty).map (·.size) = some cs.length) (hold : old.length = cs.length) (h1 : cs.all (·.oneCell') = true)
 (h : ∀ w', Blk w' g t cs → Only (fun k => k = g) w w' → w'.heap.size = w.heap.size → wpList P ops Q rest a w') : wpList P ops Q (o :: rest) a w := by
 refine wpList_plain hgd fun K' hK' => ?_
 have hr := run_storeVar_row (P := P) w g t ty old.toArray cs.toArray hB (by simpa using hi) (by simpa using hold) (by simpa using h1)
 unfold Oper.wp execOp
 simp only [ho, hx, hy, Instr.storeAt, Instr.sureAddr, Sem.run_bind, Sem.run_pure, Result.andThen_ok, hr, Oper.upon, hdst, Act.put]
 refine hK' _ _ (h _ ?_ ?_ ?_)
 ·unfold Blk at hB ⊢
  simp only [World.setRow, Array.getElem?_modify, if_true, hB, Option.map_some]
 ·refine ⟨rfl, rfl, rfl, by simp [World.setRow], fun k hk hn => ?_⟩
  simp only [World.setRow, Array.getElem?_modify]
  rw [if_neg (fun e => hn e.symm)]
 ·simp [World.setRow]
theorem known_any' (g : Nat) (s : St) (b : Batch) (A : Option Addr) (c : Nat) (P Q : Nat → Prop) (w : World) (h : StAt w P g s) (hr : PutR.Row w Q A b.puts) (hl : b.puts.length ≤ 8) (hT : ∀ n k, (knownT s.table n k).1.fit) :
 Calls Tryz.prog 113 #[ptrV g, .agg #[.string b.key, .slice A b.puts.length c]] w fun e w' => Got3 w.heap.size (knownS s b) e w' ∧ Below w.heap.size w w' := by
 obtain ⟨v, hB, hI⟩ := h
 have HTB := jh hI.table
 have HB := jh hB
 have HR := jh (hr.mono (Q := fun g => g < w.heap.size) fun g _ h => h)
 have HK := jh (show knownS s b = if b.key.toList = [] then ([], zeroKnown, 0) else if (knownL s.table b.key b.puts ([], zeroKnown, false)).1.length = 0 then ([], zeroKnown, 0) else if (knownL s.table b.key b.puts ([], zeroKnown, false)).1.length < b.puts.length ∨ (knownL s.table b.key b.puts ([], zeroKnown, false)).2.2 = true then ([], zeroKnown, 1) else ((knownL s.table b.key b.puts ([], zeroKnown, false)).1, (knownL s.table b.key b.puts ([], zeroKnown, false)).2.1, 4) from rfl)
 have HTT := jh hT
 have CK := jh (fun n k W (hW : Below w.heap.size w W) => knownT_any v.tb s.table n k P W (hI.table.ext hW))
 unfold KnownV at CK
 clear hr hB hI hT
 by_cases hk : b.key.toList = []
 ·have HKE := jh (show knownS s b = ([], zeroKnown, 0) from by rw [HK.out, if_pos hk])
  have hk2 : (!b.key.toList.isEmpty) = false := by rw [hk]; rfl
  unfold ptrV
  go_enter Tryz.func113, Tryz.ntmps113
  go_wp2_with fail
  rw [HKE.out]
  exact bodyPost_ret (results_mid rfl _ (Blk.new1 w _ 49 [.string ⟨#[]⟩, .int .i64 0, .int .i64 0, .int .i64 0, .int .i64 0]) (by rfl) Tryz.underlying49 rfl (by kernel_rfl)) rfl ⟨⟨_, rfl, Rep.Own.nil_⟩, ((jb _ _).al _).al _⟩
 have hk2 : (!b.key.toList.isEmpty) = true := by cases h : b.key.toList with | nil => exact absurd h hk | cons a b => rfl
 have hk3 : b.key.toList.isEmpty = false := by simpa using hk2
 have HKN := jh hk
 unfold ptrV
 go_enter Tryz.func113, Tryz.ntmps113
 go_upto_region 4 with fail
 have B0 := (Blk.new w 25 [.string b.key, .slice A b.puts.length c]).alloc (.cells #[.string ⟨#[]⟩, .int .i64 0, .int .i64 0, .int .i64 0, .int .i64 0] 49)
 have B1 := Blk.new1 w (.cells #[.string b.key, .slice A b.puts.length c] 25) 49 [.string ⟨#[]⟩, .int .i64 0, .int .i64 0, .int .i64 0, .int .i64 0]
 have hb1 := ((jb w.heap.size w).al (.cells #[.string b.key, .slice A b.puts.length c] 25)).al (.cells #[.string ⟨#[]⟩, .int .i64 0, .int .i64 0, .int .i64 0, .int .i64 0] 49)
 have hs1 : ((w.alloc (.cells #[.string b.key, .slice A b.puts.length c] 25)).alloc (.cells #[.string ⟨#[]⟩, .int .i64 0, .int .i64 0, .int .i64 0, .int .i64 0] 49)).heap.size = w.heap.size + 2 := by simp
 refine forget (M := fun W => Code.wp _ _ _ _ W) (fun W => Below w.heap.size w W ∧ Blk W w.heap.size 25 [.string b.key, .slice A b.puts.length c] ∧ Blk W (w.heap.size + 1) 49 zeroKnown.cells ∧ W.heap.size = w.heap.size + 2) ⟨hb1, B0, B1, hs1⟩ ?_
 clear B0 B1 hb1 hs1
 rintro w1 ⟨hb1, B0, B1, hs1⟩
 have x1 : w1.cell? ⟨w.heap.size, 1, none⟩ = some (.slice A b.puts.length c) := B0.cell 1
 have HB0 := jh (ja B0 hs1)
 go_wp2_with fail
 clear x1
 go_loopw [4, 7, 19] (fun fv uv i wr => ∃ (k : Nat) (fl : List Int) (x : Known) (u : Bool), k ≤ b.puts.length ∧ i = .int .i64 k ∧ uv = .bool u ∧ fl.length ≤ k ∧ IntR.Own wr w1.heap.size 3 (fun _ => True) fv fl ∧ Blk wr (w.heap.size + 1) 49 x.cells ∧
  knownL s.table b.key (b.puts.drop k) (fl, x, u) = knownL s.table b.key b.puts ([], zeroKnown, false) ∧ Only (fun g => g = w.heap.size + 1 ∨ w1.heap.size ≤ g) w1 wr) (fun _ _ i _ => b.puts.length - (intOf i).toNat)
 case atStart => exact ⟨0, [], zeroKnown, false, Nat.zero_le _, rfl, rfl, Nat.le_refl _, Rep.Own.nil_, B1, rfl, Only.refl _ _⟩
 case round =>
  clear B0 B1 hs1
  obtain ⟨k, fl, x, u, hkl, rfl, rfl, hfl, hfo, hBx, hkn, hO⟩ := hrel
  have hs1 := HB0.out.2
  have hlo : Below w.heap.size w wr := hb1.trans (hO.low (fun g hg => by rcases hg with h | h <;> omega) (by omega))
  have hBb : Blk wr w.heap.size 25 [.string b.key, .slice A b.puts.length c] := HB0.out.1.only hO (fun h => by rcases h with h | h <;> omega)
  by_cases hlt : k < b.puts.length
  ·have hlk := jg hlt
   have hkd := knownL_drop s.table b.key b.puts k (fl, x, u) hlt
   obtain ⟨bb, o, cs, hAe, hP, hbw, hrep, hcs⟩ := (HR.out.ext hlo).at_ hlk
   generalize b.puts[k] = p at hlk hkd hrep
   subst hAe
   obtain ⟨Ad, cd, rfl, _, _, _, _, _⟩ := put_rep.1 hrep
   have c0 := hcs 0 _ rfl; have c1 := hcs 1 _ rfl; have c2 := hcs 2 _ rfl; simp only [PutR_size, Nat.add_zero] at c0 c1 c2
   have hlt' : (k : Int) < b.puts.length := by omega
   have hq : (knownT s.table p.stream b.key).1.fit := HTT.out _ _
   have CK' := CK.out p.stream b.key
   clear hcs hrep hlk hP hbw
   generalize knownT s.table p.stream b.key = q at *
   have HKD := jh (ja hkd (ja hkn hq))
   clear hkd hkn hq
   go_upto_region 7 with fail
   have hb2 := (jb wr.heap.size wr).al (.cells #[.string p.stream, .int .i64 p.expect, .slice Ad p.data.length cd] 69)
   have BP := Blk.new wr 69 [.string p.stream, .int .i64 p.expect, .slice Ad p.data.length cd]
   have hfo2 := hfo.ext hb2
   have hBx2 := hBx.ext hb2
   have hO2 := hO.tr (jo hb2)
   have hlo2 := hlo.trans (hb2.mono hlo.size)
   have y0 := On.cell (BP.cell 0)
   have y1 := On.cell ((hBb.ext hb2).cell 0)
   have y5 := On.cell ((HB.out.ext hlo2).cell 5 : _ = some (ptrV v.tb))
   unfold ptrV at y5 CK'
   clear c0 c1 c2 hb2 BP hfo hBx hO hlo hBb
   generalize (wr.alloc (.cells #[.string p.stream, .int .i64 p.expect, .slice Ad p.data.length cd] 69)) = w2 at *
   have hz2 := hlo2.size
   have HG := jh (ja hfo2 (ja hBx2 (ja hO2 hlo2)))
   clear hfo2 hBx2 hO2
   go_cut [10, 11] (fun kv ov wx => ∃ kb, kv = .pointer (some ⟨kb, 0, none⟩) ∧ ov = .bool q.2 ∧ Blk wx kb 49 q.1.cells ∧ Below w2.heap.size w2 wx ∧ w2.heap.size ≤ kb)
   case first =>
    refine wp_region_mix (.fork [0, 1, 2, 3, 4, 5, 6, 7] 8 (.seg [9, 10, 11] 12 (.seg [] 13 (.leaf [14]))) 12 (.seg [] 8 (.seg [9, 10, 11] 13 (.leaf [14])))) (fun w' => ∃ d : Wd (On w2), w' = d.w) (by kernel_rfl) (by kernel_rfl) (fun _ _ d _ _ h => by cases d <;> exact h) (ClsW.mk (jb _ _).drew) ?_
    unfold wpMix; simp only [pick, j1, j2, j3, j4]
    (repeat (show wpQuiet _ _ _ _ (_ :: _) _; go_big_quiet_step (fail))); refine qn ?_
    constructor
    ·go_wp2_with fail
     refine (CK' w2.drew hlo2.drew).mono ?_
     rintro e w3 ⟨rfl, hb3'⟩
     have hb3 : Below w2.heap.size w2 w3 := (jb _ w2).drew.tr hb3'
     clear hb3' CK'
     go_wp2_with fail
     dsimp only [wpList, SegQ]
     refine ⟨fun w' => ∃ d : Wd (On w2), w' = d.w, ClsW.mk hb3, fun _ h => h, ?_⟩
     unfold wpMix; simp only [pick, j1, j2, j3, j4]
     (repeat (show wpQuiet _ _ _ _ (_ :: _) _; go_big_quiet_step (fail))); refine qn ?_
     go_wp2_with fail
     have hb4 := hb3.al (.cells #[.string ⟨#[]⟩, .int .i64 0, .int .i64 0, .int .i64 0, .int .i64 0] 49)
     have BK := Blk.new w3 49 [.string ⟨#[]⟩, .int .i64 0, .int .i64 0, .int .i64 0, .int .i64 0]
     have hz3 := hb3.size
     dsimp only [wpList, SegQ]
     refine ⟨fun w' => ∃ d : Wd (On w2), w' = d.w, ClsW.mk hb4, fun _ h => h, ?_⟩
     unfold wpMix; simp only [pick, j1, j2, j3, j4]
     (repeat (show wpQuiet _ _ _ _ (_ :: _) _; go_big_quiet_step (fail))); refine qn ?_
     refine wpList_store_new (cs := q.1.cells.toArray) rfl rfl rfl rfl rfl (by kernel_rfl) rfl (by simp [Known.cells, Value.oneCell']) ?_
     have hb5 := hb3.al (.cells q.1.cells.toArray 49)
     dsimp only [wpList, SegQ]
     refine ⟨fun w' => ∃ d : Wd (On w2), w' = d.w, ClsW.mk hb5, fun _ h => h, ?_⟩
     unfold wpMix; simp only [pick, j1, j2, j3, j4]
     (repeat (show wpQuiet _ _ _ _ (_ :: _) _; go_big_quiet_step (fail))); refine qn ?_
     have HZ := jh (ja (Blk.new w3 49 q.1.cells) (ja hb5 hz3))
     go_wp2_with fail
     go_meet
     exact ⟨_, rfl, rfl, HZ.out.1, HZ.out.2.1, HZ.out.2.2⟩
    ·go_wp2_with fail
     have hb4 := ((jb w2.heap.size w2).al (.cells #[.string ⟨#[]⟩, .int .i64 0, .int .i64 0, .int .i64 0, .int .i64 0] 49)).drew
     dsimp only [wpList, SegQ]
     refine ⟨fun w' => ∃ d : Wd (On w2), w' = d.w, ClsW.mk hb4, fun _ h => h, ?_⟩
     unfold wpMix; simp only [pick, j1, j2, j3, j4]
     (repeat (show wpQuiet _ _ _ _ (_ :: _) _; go_big_quiet_step (fail))); refine qn ?_
     go_wp2_with fail
     refine (CK' _ (hlo2.trans (hb4.mono hz2))).mono ?_
     rintro e w3 ⟨rfl, hb3'⟩
     have BK := ((Blk.new w2 49 [.string ⟨#[]⟩, .int .i64 0, .int .i64 0, .int .i64 0, .int .i64 0]).ext (jb _ _).drew).ext hb3'
     have hb5 : Below w2.heap.size w2 w3 := hb4.tr hb3'
     clear hb3' CK'
     have k0 := BK.cell 0
     have k1 := BK.cell 1
     have k2 := BK.cell 2
     have k3 := BK.cell 3
     have k4 := BK.cell 4
     have f0 := BK.frozen 0
     have f1 := BK.frozen 1
     have f2 := BK.frozen 2
     have f3 := BK.frozen 3
     have f4 := BK.frozen 4
     have HBK := jh BK
     clear BK
     simp only [List.getElem?_cons_zero, List.getElem?_cons_succ] at k0 k1 k2 k3 k4
     go_wp2_with fail
     dsimp only [wpList, SegQ]
     refine ⟨fun w' => ∃ d : Wd (On w2), w' = d.w, ClsW.mk hb5, fun _ h => h, ?_⟩
     unfold wpMix; simp only [pick, j1, j2, j3, j4]
     (repeat (show wpQuiet _ _ _ _ (_ :: _) _; go_big_quiet_step (fail))); refine qn ?_
     go_wp2_with fail
     dsimp only [wpList, SegQ]
     refine ⟨fun w' => ∃ d : Wd (On w2), w' = d.w, ClsW.mk (D := On w2) (by unfold On; repeat (first | exact hb5 | refine Below.st ?_ (Nat.le_refl _) _)), fun _ h => h, ?_⟩
     unfold wpMix; simp only [pick, j1, j2, j3, j4]
     (repeat (show wpQuiet _ _ _ _ (_ :: _) _; go_big_quiet_step (fail))); refine qn ?_
     go_wp2_with fail
     go_meet
     exact ⟨_, rfl, rfl, ((((HBK.out.set_ 0 (.string q.1.key)).set_ 1 (.int .i64 q.1.first)).set_ 2 (.int .i64 q.1.stamp.wall)).set_ 3 (.int .i64 q.1.stamp.logic)).set_ 4 (.int .i64 q.1.stamp.node), (by repeat (first | exact hb5 | refine Below.st ?_ (Nat.le_refl _) _)), Nat.le_refl _⟩
   case rest =>
    obtain ⟨kb, rfl, rfl, hKB, hbc, hkb⟩ := hcut
    obtain ⟨hfo2, hBx2, hO2, hlo2'⟩ := HG.out
    have hfo3 := hfo2.ext hbc
    have hBx3 := hBx2.ext hbc
    have hO3 := hO2.tr (jo hbc)
    have hzc := hbc.size
    obtain ⟨kn, ok⟩ := q
    simp only at hKB HKD
    cases ok
    ·have HZ := jh (ja hfo3 (ja hBx3 hO3))
     clear hfo2 hBx2 hO2 hlo2' hfo3 hBx3 hO3 hKB y0 y1 y5
     go_wp2_with fail
     go_round
     case rel =>
      refine ⟨k + 1, fl, x, u, by omega, by go_num, rfl, by omega, HZ.out.1, HZ.out.2.1, ?_, HZ.out.2.2⟩
      rw [← HKD.out.2.1, HKD.out.1]; rfl
     case measure => simp [intOf]; omega
    ·have k0 : wc.cell? ⟨kb, 0, none⟩ = some (.string kn.key) := hKB.cell 0
     have k1 : wc.cell? ⟨kb, 1, none⟩ = some (.int .i64 kn.first) := hKB.cell 1
     have k2 : wc.cell? ⟨kb, 2, none⟩ = some (.int .i64 kn.stamp.wall) := hKB.cell 2
     have k3 : wc.cell? ⟨kb, 3, none⟩ = some (.int .i64 kn.stamp.logic) := hKB.cell 3
     have k4 : wc.cell? ⟨kb, 4, none⟩ = some (.int .i64 kn.stamp.node) := hKB.cell 4
     clear y0 y1 y5
     obtain ⟨Ao, co, hu4, _⟩ := hfo3.form
     subst hu4
     have hfb : w.heap.size + 1 < w2.heap.size := by have := hO2.size; omega
     have HXX := jh (show ∃ x', (if fl.length = 0 then kn else x) = x' from ⟨_, rfl⟩)
     obtain ⟨x', hx'⟩ := HXX.out
     have HX := jh hx'
     clear hx' HXX
     go_upto_if 39 with fail
     go_cut [] (fun wx => Blk wx (w.heap.size + 1) 49 x'.cells ∧ Blk wx kb 49 kn.cells ∧ IntR.Own wx w1.heap.size 3 (fun _ => True) (.slice Ao fl.length co) fl ∧ Only (fun g => g = w.heap.size + 1 ∨ w1.heap.size ≤ g) w1 wx)
     case first =>
      by_cases hf0 : fl.length = 0
      ·have g0 : ((fl.length : Int) == 0) = true := by rw [beq_iff_eq]; omega
       have HXE := jh (show kn = x' from by have := HX.out; rwa [if_pos hf0] at this)
       have f0 := hBx3.frozen 0
       have f1 := hBx3.frozen 1
       have f2 := hBx3.frozen 2
       have f3 := hBx3.frozen 3
       have f4 := hBx3.frozen 4
       have z0 := hBx3.cell 0
       have z1 := hBx3.cell 1
       have z2 := hBx3.cell 2
       have z3 := hBx3.cell 3
       have z4 := hBx3.cell 4
       simp only [Known.cells, List.getElem?_cons_zero, List.getElem?_cons_succ] at z0 z1 z2 z3 z4
       have HH := jh (ja hBx3 (ja hKB (ja hfo3 hO3)))
       have hne : (Value.slice Ao fl.length co).ownBlock ≠ some (w.heap.size + 1) := by
        obtain ⟨xs, hx, _⟩ := hfo3
        exact own_blk_ne hx hBx3 (by decide)
       have HNE := jh hne
       clear hBx3 hKB hfo3 hO3 hf0 hne hfo2 hBx2 hO2 hlo2'
       simp only [g0]
       go_wp2_with fail
       go_meet
       obtain ⟨hBx3, hKB, hfo3, hO3⟩ := HH.out
       have hS : Only (fun g => g = w.heap.size + 1) wc _ := ((((Only.set_ (w := wc) (F := fun g => g = w.heap.size + 1) (p := ⟨w.heap.size + 1, 0, none⟩) rfl (.string kn.key)).tr (Only.set_ (F := fun g => g = w.heap.size + 1) (p := ⟨w.heap.size + 1, 1, none⟩) rfl (.int .i64 kn.first))).tr (Only.set_ (F := fun g => g = w.heap.size + 1) (p := ⟨w.heap.size + 1, 2, none⟩) rfl (.int .i64 kn.stamp.wall))).tr (Only.set_ (F := fun g => g = w.heap.size + 1) (p := ⟨w.heap.size + 1, 3, none⟩) rfl (.int .i64 kn.stamp.logic))).tr (Only.set_ (F := fun g => g = w.heap.size + 1) (p := ⟨w.heap.size + 1, 4, none⟩) rfl (.int .i64 kn.stamp.node))
       refine ⟨?_, hKB.only hS (fun h => by have : kb = w.heap.size + 1 := h; omega), ((hfo3.plain (S' := fun _ => False) int_plain).only hS (fun _ h => h.elim) (fun g hg h => HNE.out (by rw [hg, show g = w.heap.size + 1 from h]))).plain int_plain, hO3.tr (hS.mono (fun g h => .inl h))⟩
       rw [← HXE.out]
       exact ((((hBx3.set_ 0 (.string kn.key)).set_ 1 (.int .i64 kn.first)).set_ 2 (.int .i64 kn.stamp.wall)).set_ 3 (.int .i64 kn.stamp.logic)).set_ 4 (.int .i64 kn.stamp.node)
      ·have g0 : ((fl.length : Int) == 0) = false := by rw [beq_eq_false_iff_ne]; omega
       have HXE := jh (show x = x' from by have := HX.out; rwa [if_neg hf0] at this)
       have HH := jh (ja hBx3 (ja hKB (ja hfo3 hO3)))
       clear hBx3 hKB hfo3 hO3 hf0 hfo2 hBx2 hO2 hlo2'
       simp only [g0]
       go_wp2_with fail
       go_meet
       rw [← HXE.out]
       exact ⟨HH.out.1, HH.out.2.1, HH.out.2.2.1, HH.out.2.2.2⟩
     case rest =>
      obtain ⟨hBX, hKK, hfo4, hO4⟩ := hcut
      have k1 : wc.cell? ⟨kb, 1, none⟩ = some (.int .i64 kn.first) := hKK.cell 1
      have hO4z := hO4.size
      obtain ⟨i0, e1, e2, e3, e4⟩ := info_parts int_info
      have hrx : IntR.rep wc (fun _ => False) [.int .i64 kn.first] kn.first := ⟨rfl, HKD.out.2.2.2.1⟩
      have HH := jh (ja hBX (ja hKK hO4))
      have HFO := jh hfo4
      clear hBX hKK hO4 hBx3 hKB hfo3 hO3 hfo2 hBx2 hO2 hlo2' k0 k2 k3 k4
      go_upto_region 12 with (first
       | (at_builtin; refine wpList_append_new (R := IntR) wc rfl (.tmp 41) (.tmp 44) _ rfl w1.heap.size 3 i0 _ 8 Tryz.underlying43 e1 e2 e3 e4 rfl _ fl (fun _ => True) rfl hfo4 (fun _ _ => trivial) rfl (fun _ => False) _ hrx (fun _ h => h.elim) (by unfold maxLen; omega) (by omega) hO4z ?_; intro v1 w6 ho1 hg1 hat1 hn1 hb6)
       | fail)
      have hO6 := HH.out.2.2.trans (Only.of_belowB (F := fun g => w1.heap.size ≤ g) hb6 (fun g h => h)) (fun g _ h => .inr h)
      have hne1 : ∀ t cs gg, Blk wc gg t cs → 3 ≠ t → (Value.slice Ao fl.length co).ownBlock ≠ some gg := fun t cs gg hb ht => by
       obtain ⟨xs, hx, _⟩ := HFO.out
       exact own_blk_ne hx hb ht
      have hX6 := HH.out.1.only (Only.grown hg1 (F := fun g => (Value.slice Ao fl.length co).ownBlock = some g) (fun g hg => hg)) (hne1 _ _ _ HH.out.1 (by decide))
      have hK6 := HH.out.2.1.only (Only.grown hg1 (F := fun g => (Value.slice Ao fl.length co).ownBlock = some g) (fun g hg => hg)) (hne1 _ _ _ HH.out.2.1 (by decide))
      have k2 : w6.cell? ⟨kb, 2, none⟩ = some (.int .i64 kn.stamp.wall) := hK6.cell 2
      have k3 : w6.cell? ⟨kb, 3, none⟩ = some (.int .i64 kn.stamp.logic) := hK6.cell 3
      have k4 : w6.cell? ⟨kb, 4, none⟩ = some (.int .i64 kn.stamp.node) := hK6.cell 4
      have x2 : w6.cell? ⟨w.heap.size + 1, 2, none⟩ = some (.int .i64 x'.stamp.wall) := hX6.cell 2
      have x3 : w6.cell? ⟨w.heap.size + 1, 3, none⟩ = some (.int .i64 x'.stamp.logic) := hX6.cell 3
      have x4 : w6.cell? ⟨w.heap.size + 1, 4, none⟩ = some (.int .i64 x'.stamp.node) := hX6.cell 4
      have HZ := jh (ja ho1 (ja hX6 hO6))
      have HEND := jh (show ∀ u', u' = (u || decide (kn.stamp ≠ x'.stamp)) → knownL s.table b.key (b.puts.drop (k + 1)) (fl ++ [kn.first], x', u') = knownL s.table b.key b.puts ([], zeroKnown, false) from fun u' hu' => by
       rw [← HKD.out.2.1, HKD.out.1, hu']
       simp only [if_true, HX.out])
      clear ho1 hX6 hO6 hK6 hne1 hg1 hat1 hn1 hb6 hrx e1 e2 e3 e4 hfo4 k1
      cases u
      ·have hcase : (kn.stamp.wall ≠ x'.stamp.wall) ∨ (kn.stamp.wall = x'.stamp.wall ∧ kn.stamp.logic ≠ x'.stamp.logic) ∨ (kn.stamp.wall = x'.stamp.wall ∧ kn.stamp.logic = x'.stamp.logic ∧ kn.stamp.node ≠ x'.stamp.node) ∨
        (kn.stamp.wall = x'.stamp.wall ∧ kn.stamp.logic = x'.stamp.logic ∧ kn.stamp.node = x'.stamp.node) := by
        by_cases kn.stamp.wall = x'.stamp.wall <;> by_cases kn.stamp.logic = x'.stamp.logic <;> by_cases kn.stamp.node = x'.stamp.node <;> simp [*]
       rcases hcase with gg | gg | gg | gg
       ·have G := jh gg
        (have g3 : (kn.stamp.wall == x'.stamp.wall) = false := by rw [beq_eq_false_iff_ne] ; exact gg)
        clear gg
        go_wp2_with fail
        go_round
        case rel =>
         refine ⟨k + 1, fl ++ [kn.first], x', true, by omega, by go_num, rfl, by simp; omega, HZ.out.1, HZ.out.2.1, HEND.out _ ?_, HZ.out.2.2⟩
         have hne : kn.stamp ≠ x'.stamp := fun e => G.out (by rw [e])
         simp [hne]
        case measure => simp [intOf]; omega
       ·have G := jh gg
        (rw [gg.1] at k2) ; (have g3 : (kn.stamp.logic == x'.stamp.logic) = false := by rw [beq_eq_false_iff_ne] ; exact gg.2)
        clear gg
        go_wp2_with fail
        go_round
        case rel =>
         refine ⟨k + 1, fl ++ [kn.first], x', true, by omega, by go_num, rfl, by simp; omega, HZ.out.1, HZ.out.2.1, HEND.out _ ?_, HZ.out.2.2⟩
         have hne : kn.stamp ≠ x'.stamp := fun e => G.out.2 (by rw [e])
         simp [hne]
        case measure => simp [intOf]; omega
       ·have G := jh gg
        (rw [gg.1] at k2) ; (rw [gg.2.1] at k3) ; (have g3 : (kn.stamp.node == x'.stamp.node) = false := by rw [beq_eq_false_iff_ne] ; exact gg.2.2)
        clear gg
        go_wp2_with fail
        go_round
        case rel =>
         refine ⟨k + 1, fl ++ [kn.first], x', true, by omega, by go_num, rfl, by simp; omega, HZ.out.1, HZ.out.2.1, HEND.out _ ?_, HZ.out.2.2⟩
         have hne : kn.stamp ≠ x'.stamp := fun e => G.out.2.2 (by rw [e])
         simp [hne]
        case measure => simp [intOf]; omega
       ·have G := jh gg
        rw [gg.1] at k2
        rw [gg.2.1] at k3
        rw [gg.2.2] at k4
        clear gg
        go_wp2_with fail
        go_round
        case rel =>
         refine ⟨k + 1, fl ++ [kn.first], x', false, by omega, by go_num, rfl, by simp; omega, HZ.out.1, HZ.out.2.1, HEND.out _ ?_, HZ.out.2.2⟩
         have hst : kn.stamp = x'.stamp := by
          have := G.out
          obtain ⟨y1, y2, ⟨y3, y4, y5⟩⟩ := kn
          obtain ⟨x1, x2, ⟨x3, x4, x5⟩⟩ := x'
          simp only at this ⊢
          rw [this.1, this.2.1, this.2.2]
         simp [hst]
        case measure => simp [intOf]; omega
      ·go_wp2_with fail
       go_round
       case rel => exact ⟨k + 1, fl ++ [kn.first], x', true, by omega, by go_num, rfl, by simp; omega, HZ.out.1, HZ.out.2.1, HEND.out _ rfl, HZ.out.2.2⟩
       case measure => simp [intOf]; omega
  ·have hkn' : k = b.puts.length := by omega
   subst hkn'
   rw [List.drop_length] at hkn
   have HKN2 := jh (show knownL s.table b.key b.puts ([], zeroKnown, false) = (fl, x, u) from hkn.symm)
   have y1 : wr.cell? ⟨w.heap.size, 1, none⟩ = some (.slice A b.puts.length c) := hBb.cell 1
   obtain ⟨Ao, co, hu4, _⟩ := hfo.form
   subst hu4
   have HH := jh (ja hlo (ja hfo hBx))
   have hzl := hlo.size
   by_cases hf0 : fl.length = 0
   ·have g0 : ((fl.length : Int) == 0) = true := by rw [beq_iff_eq]; omega
    have HKE := jh (show knownS s b = ([], zeroKnown, 0) from by rw [HK.out, if_neg HKN.out, HKN2.out, if_pos hf0])
    clear hkn hBx hO hfo hlo hBb hf0
    go_wp2_with (first
     | (refine wpList_store_blk (cs := zeroKnown.cells) rfl rfl rfl rfl rfl HH.out.2.2 (by kernel_rfl) rfl (by simp [zeroKnown, zeroStamp, Known.cells, Value.oneCell']) ?_; intro w8 hB8 hO8 hz8)
     | fail)
    rw [HKE.out]
    exact bodyPost_ret (results_mid rfl _ hB8 (by rfl) Tryz.underlying49 rfl (by kernel_rfl)) rfl ⟨⟨_, rfl, Rep.Own.nil_⟩, HH.out.1.trans (hO8.low (fun g hg => by have : g = w.heap.size + 1 := hg; omega) hzl)⟩
   have g0 : ((fl.length : Int) == 0) = false := by rw [beq_eq_false_iff_ne]; omega
   by_cases hfs : fl.length < b.puts.length
   ·have HKE := jh (show knownS s b = ([], zeroKnown, 1) from by rw [HK.out, if_neg HKN.out, HKN2.out, if_neg hf0, if_pos (.inl hfs)])
    have hfs' : (fl.length : Int) < b.puts.length := by omega
    clear hkn hBx hO hfo hlo hBb hf0
    go_wp2_with (first
     | (refine wpList_store_blk (cs := zeroKnown.cells) rfl rfl rfl rfl rfl HH.out.2.2 (by kernel_rfl) rfl (by simp [zeroKnown, zeroStamp, Known.cells, Value.oneCell']) ?_; intro w8 hB8 hO8 hz8)
     | fail)
    rw [HKE.out]
    exact bodyPost_ret (results_mid rfl _ hB8 (by rfl) Tryz.underlying49 rfl (by kernel_rfl)) rfl ⟨⟨_, rfl, Rep.Own.nil_⟩, HH.out.1.trans (hO8.low (fun g hg => by have : g = w.heap.size + 1 := hg; omega) hzl)⟩
   have hfs' : decide (fl.length < b.puts.length) = false := jd hfs
   cases u
   ·have HKE := jh (show knownS s b = (fl, x, 4) from by rw [HK.out, if_neg HKN.out, HKN2.out, if_neg hf0, if_neg (by simp; omega)])
    haveI : Nonempty (Wd (KnB (w.heap.size + 1) x)) := ⟨⟨_, hBx⟩⟩
    have z0 := KnB.c0 (g := w.heap.size + 1) (x := x)
    have z1 := KnB.c1 (g := w.heap.size + 1) (x := x)
    have z2 := KnB.c2 (g := w.heap.size + 1) (x := x)
    have z3 := KnB.c3 (g := w.heap.size + 1) (x := x)
    have z4 := KnB.c4 (g := w.heap.size + 1) (x := x)
    clear hkn hBx hO hfo hlo hBb hf0 hfs
    go_upto_region 18 with fail
    refine wp_region_mix (.seg [0, 1, 2] 3 (.leaf [4])) (fun w' => ∃ d : Wd (KnB (w.heap.size + 1) x), w' = d.w) (by kernel_rfl) (by kernel_rfl) (fun _ _ d _ _ h => by cases d <;> exact h) (ClsW.mk (D := KnB (w.heap.size + 1) x) (Blk.drew HH.out.2.2)) ?_
    unfold wpMix; simp only [pick, j1, j2, j3, j4]
    (repeat (show wpQuiet _ _ _ _ (_ :: _) _; go_big_quiet_step (fail))); refine qn ?_
    refine wpList_store_blk (cs := x.cells) rfl rfl rfl rfl rfl (Blk.drew HH.out.2.2) (by kernel_rfl) rfl (by simp [Known.cells, Value.oneCell']) ?_
    intro w8 hB8 hO8 hz8
    dsimp only [wpList, SegQ]
    refine ⟨fun w' => ∃ d : Wd (KnB (w.heap.size + 1) x), w' = d.w, ClsW.mk (D := KnB (w.heap.size + 1) x) hB8, fun _ h => h, ?_⟩
    unfold wpMix; simp only [pick, j1, j2, j3, j4]
    (repeat (show wpQuiet _ _ _ _ (_ :: _) _; go_big_quiet_step (fail))); refine qn ?_
    have hO9 : Only (fun g => g = w.heap.size + 1) wr w8 := (jo (jb _ wr).drew).tr hO8
    have hO9f : IntR.Own w8 w1.heap.size 3 (fun _ => False) (.slice Ao fl.length co) fl := (HH.out.2.1.plain (S' := fun _ => False) int_plain).only hO9 (fun _ h => h.elim) (fun g hg h => by
     obtain ⟨xs, hx, _⟩ := HH.out.2.1
     exact own_blk_ne hx HH.out.2.2 (by decide) (show _ = some (w.heap.size + 1) from by rw [hg, show g = w.heap.size + 1 from h]))
    have HO9 := jh (ja hO9 hO9f)
    clear hO9 hO9f z0 z1 z2 z3 z4
    go_wp2_with fail
    rw [HKE.out]
    exact bodyPost_ret (results_mid rfl _ hB8 (by rfl) Tryz.underlying49 rfl (by kernel_rfl)) rfl ⟨⟨_, rfl, HO9.out.2.base' (by omega)⟩, HH.out.1.trans (HO9.out.1.low (fun g hg => by have : g = w.heap.size + 1 := hg; omega) hzl)⟩
   ·have HKE := jh (show knownS s b = ([], zeroKnown, 1) from by rw [HK.out, if_neg HKN.out, HKN2.out, if_neg hf0, if_pos (.inr rfl)])
    clear hkn hBx hO hfo hlo hBb hf0 hfs
    go_wp2_with (first
     | (refine wpList_store_blk (cs := zeroKnown.cells) rfl rfl rfl rfl rfl HH.out.2.2 (by kernel_rfl) rfl (by simp [zeroKnown, zeroStamp, Known.cells, Value.oneCell']) ?_; intro w8 hB8 hO8 hz8)
     | fail)
    rw [HKE.out]
    exact bodyPost_ret (results_mid rfl _ hB8 (by rfl) Tryz.underlying49 rfl (by kernel_rfl)) rfl ⟨⟨_, rfl, Rep.Own.nil_⟩, HH.out.1.trans (hO8.low (fun g hg => by have : g = w.heap.size + 1 := hg; omega) hzl)⟩
end Go.Proofs.YtcmjgghkmdbphaaGreatDoor
namespace Go.Proofs.YtcmjgghkmdbphaaGreatDoor
open Go.RowKit
theorem flatten_set {s k j : Nat} {u : Value} : ∀ {css : List (List Value)}, (∀ cs ∈ css, cs.length = s) → ∀ {cs}, css[k]? = some cs → j < s → (css.set k (cs.set j u)).flatten = css.flatten.set (k * s + j) u := by
 induction k with
 | zero =>
   intro css h cs hk hj
   cases css with
   | nil => cases hk
   | cons c r =>
     simp at hk; subst hk
     have := h c (by simp)
     simp only [List.set_cons_zero, List.flatten_cons, Nat.zero_mul, Nat.zero_add]
     rw [List.set_append_left _ _ (by omega)]
 | succ k ih =>
   intro css h cs hk hj
   cases css with
   | nil => cases hk
   | cons c r =>
     simp only [List.getElem?_cons_succ] at hk
     have h1 := h c (by simp)
     simp only [List.set_cons_succ, List.flatten_cons]
     rw [ih (fun cs hc => h cs (by simp [hc])) hk hj, List.set_append_right _ _ (by rw [h1, Nat.succ_mul]; omega)]
     congr 2
     rw [h1, Nat.succ_mul]; omega
section
variable {α : Type} {R : Rep α} {w : World} {B e : Nat} {S : Nat → Prop} {v : Value} {l : List α}
theorem Rep.Own.set_ {k j : Nat} {u : Value} {a a' : α} (h : R.Own w B e S v l) (hk : l[k]? = some a) (hj : j < R.size) (_hu : u.oneCell' = true)
 (hrep : ∀ cs, R.rep w (fun g => S g ∧ some g ≠ v.ownBlock) cs a → R.rep w (fun g => S g ∧ some g ≠ v.ownBlock) (cs.set j u) a') :
 ∃ g c, v = .slice (some ⟨g, 0, none⟩) l.length c ∧ B ≤ g ∧ g < w.heap.size ∧ l.length ≤ c ∧ R.Own (w.setCell ⟨g, k * R.size + j, none⟩ u) B e S v (l.set k a') ∧ w.frozen? ⟨g, k * R.size + j, none⟩ = false ∧ (∃ x, w.cell? ⟨g, k * R.size + j, none⟩ = some x) := by
 obtain ⟨xs, ⟨h1, h2⟩, css, rfl, h3, h4⟩ := h
 have hkl := (List.getElem?_eq_some_iff.1 hk).1
 rcases h2 with ⟨_, h2⟩ | ⟨g, cap, cur, rfl, hB, hg, hn, hc, hs, ht⟩
 ·rw [h2] at hkl; omega
 ·have hgl := (Array.getElem?_eq_some_iff.1 hg).1
  have hsub : ∀ cs ∈ css, cs.length = R.size := fun cs hcs => by
   obtain ⟨i, hi⟩ := List.getElem?_of_mem hcs
   have hil : i < l.length := by have := (List.getElem?_eq_some_iff.1 hi).1; omega
   exact R.len (h4 i cs _ hi (jg hil))
  have hkc : k < css.length := by omega
  have hck := jg hkc
  have hrk := h4 k _ a hck hk
  have hidx : k * R.size + j < l.length * R.size := by
   have : (k + 1) * R.size ≤ l.length * R.size := Nat.mul_le_mul_right _ hkl
   rw [Nat.succ_mul] at this; omega
  have hcs : l.length * R.size ≤ cap * R.size := Nat.mul_le_mul_right _ hn
  have hin : k * R.size + j < cur.size := by rw [hs]; omega
  have hcell : w.cell? ⟨g, k * R.size + j, none⟩ = some cur[k * R.size + j] := by
   unfold World.cell?
   simp [hg, hin]
  have hB0 : Blk w g e cur.toList := by unfold Blk; simpa using hg
  have hset : (w.setCell ⟨g, k * R.size + j, none⟩ u).heap[g]? = some (.cells (cur.toList.set (k * R.size + j) u).toArray e (0, 0)) := hB0.set_ (k * R.size + j) u
  have hsame : Same (fun k => S k ∧ some k ≠ (Value.slice (some ⟨g, 0, none⟩) l.length cap).ownBlock) w (w.setCell ⟨g, k * R.size + j, none⟩ u) := Same.set_ (fun q => q.2 rfl) u
  refine ⟨g, cap, rfl, hB, hgl, hn, ⟨(css.set k ((css[k]).set j u)).flatten, ⟨?_, ?_⟩, css.set k ((css[k]).set j u), rfl, by simp [h3], fun i cs b hi hb => ?_⟩, ?_, ⟨_, hcell⟩⟩
  ·rw [flatten_set hsub hck hj, List.length_set, h1, List.length_set]
  ·refine .inr ⟨g, cap, (cur.toList.set (k * R.size + j) u).toArray, by rw [List.length_set], hB, hset, by rw [List.length_set]; exact hn, hc, by simp [hs], ?_⟩
   rw [flatten_set hsub hck hj, ← ht, List.length_set]
   show (cur.toList.set _ u).take _ = _
   rw [List.take_set]
  ·by_cases hik : i = k
   ·subst hik
    rw [List.getElem?_set_self hkc] at hi
    rw [List.getElem?_set_self hkl] at hb
    injection hi with hi; injection hb with hb
    subst hi hb
    have := R.same (hrep _ hrk) hsame
    exact this
   ·rw [List.getElem?_set_ne (fun q => hik q.symm)] at hi hb
    have := R.same (h4 i cs b hi hb) hsame
    exact this
  ·unfold World.frozen?
   simp [hg]
theorem Rep.Own.at0 {A : Option Addr} {n c : Nat} (h : R.Own w B e S (.slice A n c) l) (hl : 0 < l.length) : ∃ g, A = some ⟨g, 0, none⟩ ∧ B ≤ g ∧ g < w.heap.size := by
 obtain ⟨xs, ⟨_, h2⟩, _⟩ := h
 rcases h2 with ⟨_, h2⟩ | ⟨g, cap, cur, hv, hB, hg, _⟩
 ·omega
 ·injection hv with hv
  exact ⟨g, hv, hB, (Array.getElem?_eq_some_iff.1 hg).1⟩
end
def MixR (N : Nat) : Rep (Put × Bool) where
 size := 3
 rep w P cs x := PutR.rep w (fun g => P g ∧ (x.2 = true → N ≤ g)) cs x.1
 pos := by decide
 len h := PutR.len h
 one h := PutR.one h
 same h hs := PutR.same h fun g hg hl => hs g hg.1 hl
 mono h hs := PutR.mono h fun g hg hl => ⟨hs g hg.1 hl, hg.2⟩
def flags (l : List Put) (k : Nat) : List (Put × Bool) := (l.take k).map (fun p => (p, true)) ++ (l.drop k).map fun p => (p, false)
theorem flags_len (l : List Put) (k : Nat) : (flags l k).length = l.length := by simp [flags]; omega
theorem flags_at {l : List Put} {k : Nat} (h : k < l.length) : (flags l k)[k]? = some (l[k], false) := by
 unfold flags
 rw [List.getElem?_append_right (by simp; exact Nat.min_le_left _ _)]
 simp [Nat.min_eq_left (Nat.le_of_lt h), h]
theorem flags_set {l : List Put} {k : Nat} (h : k < l.length) : (flags l k).set k (l[k], true) = flags l (k + 1) := by
 unfold flags
 rw [List.drop_eq_getElem_cons h, take_snoc l k h, List.map_append, List.map_cons, List.set_append_right _ _ (by simp; exact Nat.min_le_left _ _)]
 simp [Nat.min_eq_left (Nat.le_of_lt h)]
section
variable {w : World} {B e N : Nat} {S : Nat → Prop} {v : Value} {l : List Put}
theorem MixR.start (h : PutR.Own w B e S v l) : (MixR N).Own w B e S v (flags l 0) := by
 obtain ⟨xs, h1, css, hx, hc, hr⟩ := h
 refine ⟨xs, by rw [flags_len]; exact h1, css, hx, by rw [flags_len]; exact hc, fun i cs a hi ha => ?_⟩
 have : flags l 0 = l.map fun p => (p, false) := by simp [flags]
 rw [this, List.getElem?_map] at ha
 obtain ⟨p, hp, rfl⟩ := Option.map_eq_some_iff.1 ha
 exact PutR.mono (hr i cs p hi hp) fun g hg _ => ⟨hg, fun q => by cases q⟩
theorem MixR.stop_ (h : (MixR N).Own w B e S v (flags l l.length)) : PutR.Own w B e (fun g => S g ∧ N ≤ g) v l := by
 obtain ⟨xs, h1, css, hx, hc, hr⟩ := h
 rw [flags_len] at h1 hc
 refine ⟨xs, h1, css, hx, hc, fun i cs a hi ha => ?_⟩
 have : flags l l.length = l.map fun p => (p, true) := by simp [flags]
 have := hr i cs (a, true) hi (by rw [this, List.getElem?_map, ha]; rfl)
 exact PutR.mono this fun g hg _ => ⟨⟨hg.1.1, hg.2 rfl⟩, hg.1.2⟩
end
def GotHeld (h : Held) (N : Nat) (e : Ending) (w' : World) : Prop := ∃ pA pc fA fc, e = .returned (.agg (h.cellsV pA pc fA fc).toArray) ∧ (h.batch.puts.length ≤ pc ∧ pc ≤ 9223372036854775807 ∧ PutR.Row w' (fun g => N ≤ g) pA h.batch.puts) ∧ (h.firsts.length ≤ fc ∧ fc ≤ 9223372036854775807 ∧ IntR.Row w' (fun g => N ≤ g) fA h.firsts)
def Held.zeros : List Value := [.int .i64 0, .int .i64 0, .int .i64 0, .string ⟨#[]⟩, .slice none 0 0, .int .i64 0, .int .i64 0, .int .i64 0, .slice none 0 0]
theorem own_any (h : Held) (pA fA : Option Addr) (pc fc : Nat) (Q : Nat → Prop) (w : World) (hrP : PutR.Row w Q pA h.batch.puts) (hrF : IntR.Row w Q fA h.firsts) (hl : h.batch.puts.length ≤ 1000000) (hd : ∀ p ∈ h.batch.puts, p.data.length ≤ 1000000) (hf : h.firsts.length ≤ 1000000) :
 Calls Tryz.prog 133 #[.agg (h.cellsV pA pc fA fc).toArray] w fun e w' => GotHeld h w.heap.size e w' ∧ Below w.heap.size w w' := by
 have hb1 := ((jb w.heap.size w).al (.cells (h.cellsV pA pc fA fc).toArray 192)).al (.cells Held.zeros.toArray 192)
 have B0 := (Blk.new w 192 (h.cellsV pA pc fA fc)).alloc (.cells Held.zeros.toArray 192)
 have B1 := Blk.new1 w (.cells (h.cellsV pA pc fA fc).toArray 192) 192 Held.zeros
 have hs1 : ((w.alloc (.cells (h.cellsV pA pc fA fc).toArray 192)).alloc (.cells Held.zeros.toArray 192)).heap.size = w.heap.size + 2 := by simp
 have HR := jh (ja (hrP.mono (Q := fun g => Q g ∧ g < w.heap.size) fun g a b => ⟨a, b⟩) (ja (hrF.mono (Q := fun g => Q g ∧ g < w.heap.size) fun g a b => ⟨a, b⟩) (ja hl (ja hd hf))))
 clear hrP hrF hl hd hf
 go_enter Tryz.func133, Tryz.ntmps133
 go_upto_region 1 with fail
 refine forget (M := fun W => Code.wp _ _ _ _ W) (fun W => Below w.heap.size w W ∧ Blk W w.heap.size 192 (h.cellsV pA pc fA fc) ∧ Blk W (w.heap.size + 1) 192 Held.zeros ∧ W.heap.size = w.heap.size + 2) ⟨hb1, B0, B1, hs1⟩ ?_
 clear B0 B1 hb1 hs1
 rintro w1 ⟨hb1, B0, B1, hs1⟩
 have C1 := clone_Put pA pc h.batch.puts (fun g => Q g ∧ g < w.heap.size) w1 (HR.out.1.ext hb1) (by have := HR.out.2.2.1; omega)
 unfold GotOwn at C1
 have x4 : w1.cell? ⟨w.heap.size, 4, none⟩ = some (.slice pA h.batch.puts.length pc) := B0.cell 4
 have x4f : w1.frozen? ⟨w.heap.size, 4, none⟩ = false := B0.frozen 4
 have H1 := jh (ja hb1 (ja B0 (ja B1 hs1)))
 clear B0 B1 hb1 hs1
 go_wp2_with fail
 refine C1.mono ?_
 clear C1 x4 x4f
 rintro e w2 ⟨⟨v2, rfl, hv2⟩, hb2⟩
 obtain ⟨A2, c9, rfl, hc2, hc2m⟩ := hv2.form
 have x4 : w2.cell? ⟨w.heap.size, 4, none⟩ = some (.slice pA h.batch.puts.length pc) := (H1.out.2.1.ext hb2).cell 4
 have x4f : w2.frozen? ⟨w.heap.size, 4, none⟩ = false := (H1.out.2.1.ext hb2).frozen 4
 go_upto_region 2 with fail
 have hz1 := H1.out.2.2.2
 have hz2 := hb2.size
 have B3 : Blk (w2.setCell ⟨w.heap.size, 4, none⟩ (.slice A2 h.batch.puts.length c9)) w.heap.size 192 (h.cellsV A2 c9 fA fc) := (H1.out.2.1.ext hb2).set_ 4 (.slice A2 h.batch.puts.length c9)
 have O3 : Only (· = w.heap.size) w2 (w2.setCell ⟨w.heap.size, 4, none⟩ (.slice A2 h.batch.puts.length c9)) := Only.set_ (F := (· = w.heap.size)) rfl _
 have B13 := (H1.out.2.2.1.ext hb2).only O3 (fun e => by have : w.heap.size + 1 = w.heap.size := e; omega)
 have hv3 := (hv2.only O3 (fun g hg e => by have e' : g = w.heap.size := e; omega) (fun g hg e => by have e' : g = w.heap.size := e; have := (hv2.lt g hg).1; omega))
 have hm3 := MixR.start (N := w.heap.size) hv3
 have hw3 : Below w.heap.size w (w2.setCell ⟨w.heap.size, 4, none⟩ (.slice A2 h.batch.puts.length c9)) := (H1.out.1.tr hb2).trans (O3.low (fun g hg => by rw [hg]; omega) (by omega))
 have hrF := HR.out.2.1.ext hw3
 generalize hwo : (w2.setCell ⟨w.heap.size, 4, none⟩ (.slice A2 h.batch.puts.length c9)) = w3 at *
 have hz3 : w3.heap.size = w2.heap.size := by rw [← hwo]; simp
 clear hwo x4 x4f hv2 hv3 hb2 O3
 have x4 : w3.cell? ⟨w.heap.size, 4, none⟩ = some (.slice A2 h.batch.puts.length c9) := B3.cell 4
 have H3 := jh (ja B3 (ja B13 (ja hw3 hrF)))
 have HM3 := jh hm3
 clear B3 B13 hw3 hrF hm3
 go_wp2_with fail
 clear x4
 go_loopw [14] (fun i wr => ∃ k : Nat, k ≤ h.batch.puts.length ∧ i = .int .i64 k ∧ (MixR w.heap.size).Own wr w1.heap.size 69 (fun g => w1.heap.size ≤ g ∨ (Q g ∧ g < w.heap.size)) (.slice A2 h.batch.puts.length c9) (flags h.batch.puts k) ∧ Only (fun g => w1.heap.size ≤ g) w3 wr) (fun i _ => h.batch.puts.length - (intOf i).toNat)
 case atStart => exact ⟨0, Nat.zero_le _, rfl, HM3.out, Only.refl _ _⟩
 case round =>
  obtain ⟨k, hkl, rfl, hm, hO⟩ := hrel
  have hzr := hO.size
  by_cases hlt : k < h.batch.puts.length
  ·have hlk := jg hlt
   have hfa := flags_at hlt
   have hfs := flags_set hlt
   have hdk := HR.out.2.2.2.1 _ (List.getElem_mem hlt)
   generalize h.batch.puts[k] = p at hlk hfa hfs hdk
   obtain ⟨g2, rfl, hg2, hg2l⟩ := hm.at0 (by rw [flags_len]; omega)
   obtain ⟨bb, o, cs, hAe, hP, hbw, hrep, hcs⟩ := (hm.row (fun g hg => .inl hg)).at_ hfa
   injection hAe with hAe
   injection hAe with e1 e2
   subst e1 e2
   obtain ⟨Ad, cd, rfl, _, _, hcd, hcdm, hrd⟩ := put_rep.1 hrep
   have hsz : (MixR w.heap.size).size = 3 := rfl
   have c2 := hcs 2 _ rfl
   rw [hsz, Nat.zero_add] at c2
   have B3r := H3.out.1.only hO (fun e => by have : w1.heap.size ≤ w.heap.size := e; omega)
   have y4 := On.cell (B3r.cell 4 : wr.cell? ⟨w.heap.size, 4, none⟩ = some (.slice (some ⟨g2, 0, none⟩) h.batch.puts.length c9))
   have yc := On.cell c2
   have hlt' : (k : Int) < h.batch.puts.length := by omega
   have HM := jh (ja hm (ja hO (ja hfa (ja hfs hrd))))
   clear hm hO hrep hcs hP hbw hfa hfs hlk hrd
   go_upto_region 5 with fail
   refine wp_region_mix (.seg [0, 1, 2, 3, 4, 5, 6, 7, 8, 9, 10] 11 (.seg [] 12 (.last [13] 14))) (fun w' => ∃ d : Wd (On wr), w' = d.w) (by kernel_rfl) (by kernel_rfl) (fun _ _ d _ _ h => by cases d <;> exact h) (ClsW.mk (jb _ _).drew) ?_
   unfold wpMix; simp only [pick, j1, j2, j3, j4]
   (repeat (show wpQuiet _ _ _ _ (_ :: _) _; go_big_quiet_step (fail))); refine qn ?_
   go_wp2_with fail
   have hbd : Below wr.heap.size wr wr.drew := (jb _ _).drew
   refine (clone_string Ad cd p.data _ wr.drew (HM.out.2.2.2.2.ext hbd) (by omega)).mono ?_
   rintro e w6 ⟨⟨v6, rfl, hv6⟩, hb6⟩
   obtain ⟨A6, c6, rfl, hc6, hc6m⟩ := hv6.form
   go_wp2_with fail
   have hm6 := (HM.out.1.ext hbd).ext hb6
   have row6 := hv6.row' (P := fun g => wr.drew.heap.size ≤ g) str_plain (fun g hg => (hv6.lt g hg).1)
   have hzd : wr.drew.heap.size = wr.heap.size := rfl
   obtain ⟨g3, c3, hv3, hB3, hg3, hn3, hm7, hfz, x, hx⟩ := hm6.set_ (k := k) (j := 2) (u := .slice A6 p.data.length c6) (a' := (p, true)) HM.out.2.2.1 (by rw [hsz]; omega) rfl (fun cs hcs => by
    obtain ⟨A', c', rfl, q1, q2, _, _, _⟩ := put_rep.1 hcs
    exact put_rep.2 ⟨A6, c6, rfl, q1, q2, hc6, hc6m, row6.mono fun g h1 _ => ⟨⟨.inl (by omega), fun e => by
     have e' : g = g2 := by simpa [Value.ownBlock] using e
     omega⟩, fun _ => by omega⟩⟩)
   have hg23 : g2 = g3 := by
    injection hv3 with hv3
    injection hv3 with hv3
    injection hv3 with hv3
   subst hg23
   clear hv3
   rw [hsz] at hm7 hfz hx
   rw [HM.out.2.2.2.1] at hm7
   have O7 : Only (fun g => w1.heap.size ≤ g) w6 (w6.setCell ⟨g2, k * 3 + 2, none⟩ (.slice A6 p.data.length c6)) := Only.set_ (F := fun g => w1.heap.size ≤ g) hg2 _
   have HM7 := jh (ja hm7 (((HM.out.2.1.tr (jo hbd)).tr (jo hb6)).tr O7))
   clear hm6 row6 hm7 O7 hv6
   dsimp only [wpList, SegQ]
   refine ⟨fun w' => ∃ d : Wd (On wr), w' = d.w, ClsW.mk (hbd.tr hb6), fun _ h => h, ?_⟩
   unfold wpMix; simp only [pick, j1, j2, j3, j4]
   (repeat (show wpQuiet _ _ _ _ (_ :: _) _; go_big_quiet_step (fail))); refine qn ?_
   go_wp2_with fail
   dsimp only [wpList, SegQ]
   refine ⟨fun w' => ∃ d : Wd (On wr), w' = d.w, ClsW.mk (hbd.tr hb6), fun _ h => h, ?_⟩
   unfold wpMix; simp only [pick, j1, j2, j3, j4]
   (repeat (show wpQuiet _ _ _ _ (_ :: _) _; go_big_quiet_step (fail))); refine qn ?_
   go_wp2_with fail
   dsimp only [wpList, SegQ]
   go_wp2_with fail
   go_round
   case rel => exact ⟨k + 1, by omega, by go_num, HM7.out.1, HM7.out.2⟩
   case measure => simp [intOf]; omega
  ·have hkn : k = h.batch.puts.length := by omega
   subst hkn
   have hO1 := jh (MixR.stop_ hm)
   have B3r := H3.out.1.only hO (fun e => by have : w1.heap.size ≤ w.heap.size := e; omega)
   have B13r := H3.out.2.1.only hO (fun e => by have : w1.heap.size ≤ w.heap.size + 1 := e; omega)
   have hrFr := H3.out.2.2.2.same (Same.of_only hO fun g hg e => by have := hg.2; omega) hO.size
   have hwr : Below w.heap.size w wr := H3.out.2.2.1.trans (hO.low (fun g hg => by omega) (by omega))
   have y8 : wr.cell? ⟨w.heap.size, 8, none⟩ = some (.slice fA h.firsts.length fc) := B3r.cell 8
   have HB := jh (ja B3r (ja B13r hwr))
   have C8 := clone_int fA fc h.firsts _ wr hrFr (by have := HR.out.2.2.2.2; omega)
   unfold GotOwn at C8
   clear hm hO B3r B13r hrFr hwr
   go_wp2_with fail
   refine C8.mono ?_
   clear C8 y8
   rintro e w8 ⟨⟨v8, rfl, hv8⟩, hb8⟩
   obtain ⟨A8, c8, rfl, hc8, hc8m⟩ := hv8.form
   have hz8 := hb8.size
   have B8 := HB.out.1.ext hb8
   have B18 := HB.out.2.1.ext hb8
   have x8 : w8.cell? ⟨w.heap.size, 8, none⟩ = some (.slice fA h.firsts.length fc) := B8.cell 8
   have x8f : w8.frozen? ⟨w.heap.size, 8, none⟩ = false := B8.frozen 8
   go_upto_region 8 with fail
   have B9 : Blk (w8.setCell ⟨w.heap.size, 8, none⟩ (.slice A8 h.firsts.length c8)) w.heap.size 192 (h.cellsV A2 c9 A8 c8) := B8.set_ 8 (.slice A8 h.firsts.length c8)
   have O9 : Only (fun g => g = w.heap.size ∨ g = w.heap.size + 1) w8 (w8.setCell ⟨w.heap.size, 8, none⟩ (.slice A8 h.firsts.length c8)) := Only.set_ (F := fun g => g = w.heap.size ∨ g = w.heap.size + 1) (.inl rfl) _
   have B19 := B18.far (p := ⟨w.heap.size, 8, none⟩) (show w.heap.size + 1 ≠ w.heap.size by omega) (.slice A8 h.firsts.length c8)
   generalize hw9 : w8.setCell ⟨w.heap.size, 8, none⟩ (.slice A8 h.firsts.length c8) = w9 at *
   clear hw9 x8 x8f B8 B18
   go_wp2_with (first
    | ((with_reducible refine wpList_load_blk rfl rfl ?_ B9 Tryz.underlying192 rfl (by kernel_rfl) ?_); · rfl)
    | (refine wpList_store_blk (cs := h.cellsV A2 c9 A8 c8) rfl rfl rfl rfl rfl B19 (by kernel_rfl) rfl (by simp [Held.cellsV, Value.oneCell']) ?_; intro w10 hB10 hO10 hz10)
    | fail)
   have hz9 := O9.size
   have O10 := O9.tr (hO10.mono (fun g hg => .inr hg))
   have hw10 : Below w.heap.size w w10 := (HB.out.2.2.tr hb8).trans (O10.low (fun g hg => by omega) (by have := HB.out.2.2.size; omega))
   have hP10 := (hO1.out.ext hb8).only O10 (fun g hg e => by
    rcases hg.1 with h1 | h1
    ·omega
    ·have := h1.2; omega) (fun g hg e => by have := (hO1.out.lt g hg).1; omega)
   have hF10 := hv8.only O10 (fun g hg e => by
    rcases hg with h1 | h1
    ·omega
    ·have := h1.2; omega) (fun g hg e => by have := (hv8.lt g hg).1; omega)
   exact bodyPost_blk rfl hB10 rfl Tryz.underlying192 rfl (by kernel_rfl) rfl ⟨⟨A2, c9, A8, c8, rfl, ⟨hc2, hc2m, (hP10.row (fun g hg => ⟨.inl hg, by omega⟩)).mono fun g hg _ => hg.2⟩, ⟨hc8, hc8m, hF10.row' int_plain fun g hg => by have := (hv8.lt g hg).1; omega⟩⟩, hw10⟩
end Go.Proofs.YtcmjgghkmdbphaaGreatDoor
