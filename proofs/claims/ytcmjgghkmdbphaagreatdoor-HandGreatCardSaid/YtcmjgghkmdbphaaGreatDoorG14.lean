/- table.Put. state.whole, state.fresh. slices.Clip of events. event.Make: a batch's events. -/
import Derived.Test.YtcmjgghkmdbphaaGreatDoorG11
import Derived.Test.YtcmjgghkmdbphaaGreatDoorG13
import Derived.Test.YtcmjgghkmdbphaaGreatDoorG09
import Derived.Test.YtcmjgghkmdbphaaGreatDoorG08
import Derived.Deep.AppendSrc
import Derived.Deep.DeepCutAuto
set_option maxRecDepth 20000
set_option maxHeartbeats 25600000
namespace Go.Proofs.YtcmjgghkmdbphaaGreatDoor
open Go.RowKit
def PutOut (w : World) (P : Nat → Prop) (tb : Nat) (T : Tab) (l : List Stream) (e : Ending) (w' : World) : Prop :=
 e = .returned (.int .i64 (putT l T).2) ∧ TabAt w' (fun g => P g ∨ w.heap.size ≤ g) tb (putT l T).1 ∧ Only P w w'
theorem metS_snoc (l : List Stream) (p : Stream) (s : Str) : metS (l ++ [p]) s = metS l s + (if p.name = s then 1 else 0) := by
 unfold metS; rw [List.filter_append, List.length_append]
 by_cases h : p.name = s <;> simp [h]
theorem okPut_drop (l : List Stream) (k : Nat) (h : k < l.length) : okPut (l.take k) (l.drop k) = (decide (metS (l.take k) l[k].name = 0) && (wholeB l[k] && okPut (l.take (k + 1)) (l.drop (k + 1)))) := by
 rw [List.drop_eq_getElem_cons h, take_snoc _ _ h]; rfl
theorem putAll_snoc (l : List Stream) (s : Stream) (T : Tab) : putAll (l ++ [s]) T = putA s.name ⟨s.events, keysOf s.keys⟩ (putAll l T) := by unfold putAll; rw [List.foldl_append]; rfl
theorem keysOf_snoc (l : List Known) (k : Known) : keysOf (l ++ [k]) = putA k.key k (keysOf l) := by unfold keysOf; rw [List.foldl_append]; rfl
def PutFair (l : List Stream) : Prop := l.length ≤ 40000 ∧ ∀ s ∈ l, s.events.length ≤ 40000 ∧ s.keys.length ≤ 40000
theorem PutOut.same {w w' : World} {P : Nat → Prop} {tb : Nat} {T : Tab} {l : List Stream} (h : TabAt w P tb T) (hb : Below w.heap.size w w') (he : okPut [] l = false) : PutOut w P tb T l (.returned (.int .i64 1)) w' := by
 unfold PutOut putT
 rw [he]
 exact ⟨rfl, (h.ext hb).mono fun g hg => .inl hg, jo hb⟩
theorem keysOf_nodup (l : List Known) : ((keysOf l).map (·.1)).Nodup := by
 have key : ∀ (l : List Known) (m : List (Str × Known)), (m.map (·.1)).Nodup → ((l.foldl (fun m k => putA k.key k m) m).map (·.1)).Nodup := by
  intro l
  induction l with
  | nil => intro m h; exact h
  | cons k l ih => intro m h; exact ih _ (putA_nodup h)
 exact key l [] (by simp)
theorem keysOf_mem {l : List Known} {p : Str × Known} (h : p ∈ keysOf l) : p.2 ∈ l ∧ p.1 = p.2.key := by
 have key : ∀ (l : List Known) (m : List (Str × Known)), (m.map (·.1)).Nodup → ∀ p ∈ l.foldl (fun m k => putA k.key k m) m, p ∈ m ∨ (p.2 ∈ l ∧ p.1 = p.2.key) := by
  intro l
  induction l with
  | nil => intro m _ p h; exact .inl h
  | cons k l ih =>
    intro m hm p h
    rcases ih _ (putA_nodup hm) p h with h | h
    ·rcases putA_mem' hm h with rfl | h
     ·exact .inr ⟨by simp, rfl⟩
     ·exact .inl h.1
    ·exact .inr ⟨List.mem_cons_of_mem _ h.1, h.2⟩
 rcases key l [] (by simp) p h with h | h
 ·simp at h
 ·exact h
theorem rowAll {α : Type} {R : Rep α} {w : World} {P : Nat → Prop} {A : Option Addr} {l : List α} (h : R.Row w P A l) {a : α} (ha : a ∈ l) : ∃ (b o : Nat) (cs : List Value) (_ : A = some ⟨b, o, none⟩) (_ : P b) (_ : b < w.heap.size), R.rep w P cs a := by
 obtain ⟨k, hk⟩ := List.getElem?_of_mem ha
 obtain ⟨b, o, cs, e, hp, hb, hr, _⟩ := h.at_ hk
 exact ⟨b, o, cs, e, hp, hb, hr⟩
structure PuD (sb km bx : Nat) (x : Known) (W : World) : Prop where
 k : W.cell? ⟨sb, 1, none⟩ = some (.map (some km))
 x : Blk W bx 49 x.cells
section
variable {sb km bx : Nat} {x : Known}
theorem PuD.k' (d : Wd (PuD sb km bx x)) : d.w.cell? ⟨sb, 1, none⟩ = some (.map (some km)) := d.ok.k
theorem PuD.x0 (d : Wd (PuD sb km bx x)) : d.w.cell? ⟨bx, 0, none⟩ = some (.string x.key) := d.ok.x.cell 0
theorem PuD.x1 (d : Wd (PuD sb km bx x)) : d.w.cell? ⟨bx, 1, none⟩ = some (.int .i64 x.first) := d.ok.x.cell 1
theorem PuD.x2 (d : Wd (PuD sb km bx x)) : d.w.cell? ⟨bx, 2, none⟩ = some (.int .i64 x.stamp.wall) := d.ok.x.cell 2
theorem PuD.x3 (d : Wd (PuD sb km bx x)) : d.w.cell? ⟨bx, 3, none⟩ = some (.int .i64 x.stamp.logic) := d.ok.x.cell 3
theorem PuD.x4 (d : Wd (PuD sb km bx x)) : d.w.cell? ⟨bx, 4, none⟩ = some (.int .i64 x.stamp.node) := d.ok.x.cell 4
end
theorem put_any (tb : Nat) (T : Tab) (A : Option Addr) (c : Nat) (l : List Stream) (P Q : Nat → Prop) (w : World) (h : TabAt w P tb T) (hr : StreamR.Row w Q A l) (hPQ : ∀ g, Q g → ¬ P g) (hF : PutFair l) (hT : Tabs w) (h2 : 2 ≤ w.heap.size) :
 Calls Tryz.prog 189 #[ptrV tb, .slice A l.length c] w (PutOut w P tb T l) := by
 have hmm := @run_makeMap Tryz.prog
 have HT := jh h
 have HR := jh (hr.mono (Q := fun g => Q g ∧ g < w.heap.size) fun g h1 h2 => ⟨h1, h2⟩)
 have HF := jh hF
 have HPQ := jh hPQ
 have hll : l.length ≤ 40000 := hF.1
 have CW := jh (fun s W => whole_any s (w := W))
 clear h hr hF hPQ
 unfold ptrV
 go_enter Tryz.func189, Tryz.ntmps189
 go_upto_region 2 with fail
 have hMn := MapAt.new (enc := strE) w
 have hw1 := (jb w.heap.size w).al (.map #[] 0)
 go_wp2_with fail
 go_loopw [16] (fun i wr => ∃ (k : Nat) (ps : List (Str × Value)), k ≤ l.length ∧ i = .int .i64 k ∧ MapAt strE wr w.heap.size ps ∧ (∀ s, (assocOf s ps).getD (.int .i64 0) = .int .i64 (metS (l.take k) s)) ∧
  Below w.heap.size w wr ∧ okPut (l.take k) (l.drop k) = okPut [] l) (fun i wr => l.length - (intOf i).toNat)
 case atStart => exact ⟨0, [], Nat.zero_le _, rfl, hMn, fun s => rfl, hw1, rfl⟩
 case round =>
  obtain ⟨k, ps, hkl, rfl, hM, hps, hbl, hpb⟩ := hrel
  have hsz := hM.lt
  have HPS := jh (ja hps hpb); clear hps hpb
  by_cases hlt : k < l.length
  ·have hlk := jg hlt
   obtain ⟨bb, o, cs, rfl, hP, hbw, hrep, hcs⟩ := (HR.out.ext hbl).at_ hlk
   have hpd := okPut_drop l k hlt
   have hts := take_snoc l k hlt
   have hfs := HF.out.2 _ (List.getElem_mem hlt)
   generalize l[k] = x at hlk hrep hpd hts hfs
   obtain ⟨Ae, ce, Ak, ck, rfl, hxn, _, _, hre, _, _, hrk⟩ := stream_rep.1 hrep
   have c0 := hcs 0 _ rfl; have c1 := hcs 1 _ rfl; have c2 := hcs 2 _ rfl; simp only [StreamR_size, Nat.add_zero] at c0 c1 c2
   have HPD := jh (ja hpd (ja hts (ja hfs (ja hxn (ja hre hrk))))); clear hpd hts hfs hcs hrep hlk hre hrk
   have hlt' : (k : Int) < l.length := by omega
   have hkm : (k : Int) ≤ 40000 := by omega
   have hmt : ((metS (l.take k) x.name : Nat) : Int) ≤ 1000000 := by
    have h1 : metS (l.take k) x.name ≤ (l.take k).length := List.length_filter_le _ _
    simp at h1; omega
   have hM2 := hM.alloc (.cells #[.string x.name, .slice Ae x.events.length ce, .slice Ak x.keys.length ck] 199)
   go_upto_region 6 with (first
    | (at_lookup; refine wpList_lookup_map strKey rfl (.tmp 20) (.tmp 22) 337 false rfl Tryz.underlying337 rfl hM2 x.name rfl _ (zero_int _) ?_; rw [if_neg (by simp), HPS.out.1])
    | (at_mapUpdate; refine wpList_mapUpdate_map strKey rfl rfl (.tmp 20) (.tmp 22) (.tmp 24) 337 rfl Tryz.underlying337 rfl hM2 x.name rfl _ rfl ?_; intro w4 hM3 hO3)
    | fail)
   have hM4 : MapAt strE w4 w.heap.size (assocPut x.name (Value.int .i64 ((metS (l.take k) x.name : Int) + 1)) ps) := hM3
   clear hM3
   have hbx := (((Blk.new wr 199 [.string x.name, .slice Ae x.events.length ce, .slice Ak x.keys.length ck]).only hO3 (by omega)))
   have hsm : Only (· = w.heap.size) wr w4 := (Only.alloc _).tr hO3
   have hbl4 := hbl.trans (hsm.low (B := w.heap.size) (fun g hg => by omega) (by omega))
   have hgo : assocOf x.name (assocPut x.name (Value.int .i64 ((metS (l.take k) x.name : Int) + 1)) ps) = some (.int .i64 ((metS (l.take k) x.name : Int) + 1)) := by rw [assocOf_put, if_pos rfl]
   have HGO := jh hgo
   have HPS2 := jh (show ∀ s, (assocOf s (assocPut x.name (Value.int .i64 ((metS (l.take k) x.name : Int) + 1)) ps)).getD (.int .i64 0) = .int .i64 (metS (l.take (k + 1)) s) from fun s => by
    rw [HPD.out.2.1, metS_snoc, assocOf_put]
    by_cases hs : s = x.name
    ·subst hs; rw [if_pos rfl, if_pos rfl]; rfl
    ·rw [if_neg hs, if_neg (fun e => hs e.symm), HPS.out.1, Nat.add_zero])
   have HPB := jh (show okPut (l.take k) (l.drop k) = okPut [] l from HPS.out.2)
   have c0 : w4.cell? ⟨wr.heap.size, 0, none⟩ = some (.string x.name) := hbx.cell 0
   have c1 : w4.cell? ⟨wr.heap.size, 1, none⟩ = some (.slice Ae x.events.length ce) := hbx.cell 1
   have c2 : w4.cell? ⟨wr.heap.size, 2, none⟩ = some (.slice Ak x.keys.length ck) := hbx.cell 2
   have hs4 : Same (fun g => Q g ∧ g < w.heap.size) wr w4 := Same.of_only hsm (fun g hg h => by omega)
   have CWx := CW.out x w4 Ae Ak ce ck (fun g => Q g ∧ g < w.heap.size) HPD.out.2.2.2.1 (HPD.out.2.2.2.2.1.same hs4 hsm.size) (HPD.out.2.2.2.2.2.same hs4 hsm.size) HPD.out.2.2.1.1 HPD.out.2.2.1.2 (hT.below hbl4) (by have := hbl4.size; omega)
   clear HPS hM2 hM hbl hO3 hsm hsz hbx hgo hP hbw hs4 hxn
   generalize wr.heap.size = bx at *
   generalize hn0 : metS (l.take k) x.name = n0 at *
   have HN0 := jh hn0; clear hn0
   have HX := jh (ja hM4 hbl4)
   have bad : (n0 = 0 → wholeB x = false) → okPut [] l = false := fun h => by
    rw [← HPB.out, HPD.out.1]
    by_cases h0 : n0 = 0
    ·rw [h h0]; simp
    ·simp [h0]
   have HBAD := jh bad
   clear bad
   by_cases hn0 : n0 = 0
   ·have HNF := jh hn0
    have g1 : decide ((1 : Int) < (n0 : Int) + 1) = false := jd (by omega)
    clear hn0
    go_wp2_with (first
     | (at_lookup; refine wpList_lookup_one (some (.int .i64 ((n0 : Int) + 1))) strKey rfl (.tmp 25) (.tmp 27) 337 rfl Tryz.underlying337 rfl HX.out.1 x.name rfl HGO.out _ (zero_int _) ?_; simp only [Option.getD_some])
     | fail)
    clear hM4
    cases hq : wholeB x
    ·have HQ := jh hq
     rw [hq] at CWx
     clear hq
     refine CWx.mono ?_
     clear CWx
     rintro e w5 ⟨rfl, hb5⟩
     go_wp2_with fail
     go_ret
     exact PutOut.same HT.out (HX.out.2.trans (hb5.mono HX.out.2.size)) (HBAD.out fun _ => HQ.out)
    ·have HQ := jh hq
     rw [hq] at CWx
     clear hq
     refine CWx.mono ?_
     clear CWx
     rintro e w5 ⟨rfl, hb5⟩
     go_wp2_with fail
     go_round
     case rel =>
      refine ⟨k + 1, _, by omega, by go_num, HX.out.1.ext hb5, HPS2.out, HX.out.2.trans (hb5.mono HX.out.2.size), ?_⟩
      have h := HPB.out
      rw [HPD.out.1, decide_eq_true HNF.out, HQ.out, Bool.true_and, Bool.true_and] at h
      exact h
     case measure => simp [intOf]; omega
   ·have HNF := jh hn0
    have g1 : (1 : Int) < (n0 : Int) + 1 := by omega
    clear hn0
    go_wp2_with (first
     | (at_lookup; refine wpList_lookup_one (some (.int .i64 ((n0 : Int) + 1))) strKey rfl (.tmp 25) (.tmp 27) 337 rfl Tryz.underlying337 rfl HX.out.1 x.name rfl HGO.out _ (zero_int _) ?_; simp only [Option.getD_some])
     | fail)
    go_ret
    exact PutOut.same HT.out HX.out.2 (HBAD.out fun h => absurd h (by have := HNF.out; omega))
  ·have hkn : k = l.length := by omega
   subst hkn
   have hok : okPut [] l = true := by rw [← HPS.out.2, List.drop_length]; cases l.take l.length <;> rfl
   have HOK := jh hok
   clear hok hM HPS hsz
   have HBL := jh hbl
   obtain ⟨mp, c0, HC⟩ : ∃ mp : Option Nat, wr.cell? ⟨tb, 0, none⟩ = some (.map mp) ∧ Hid ((mp = none ∧ Blk wr tb 252 [.map none] ∧ T = []) ∨ ∃ m TA, mp = some m ∧ Blk wr tb 252 [.map (some m)] ∧ P m ∧ StrsAt wr P m TA ∧ T = TabA.tab TA) := by
    obtain ⟨_, ⟨h1, h2⟩ | ⟨m, TA, h1, h2, h3, h4⟩⟩ := HT.out.ext hbl
    ·exact ⟨none, h1.cell 0, jh (.inl ⟨rfl, h1, h2⟩)⟩
    ·exact ⟨some m, h1.cell 0, jh (.inr ⟨m, TA, rfl, h1, h2, h3, h4⟩)⟩
   have htl : P tb ∧ tb < w.heap.size := ⟨HT.out.1, HT.out.lt⟩
   have hz3 := hbl.size
   have hqq := fun W => run_eql_map_nil_sl (P := Tryz.prog) W 250 _ _ mp Tryz.underlying250
   clear hbl
   go_upto_if 42 with fail
   clear hqq c0
   go_cut [] (fun wx => ∃ m TA, Blk wx tb 252 [.map (some m)] ∧ (P m ∨ w.heap.size ≤ m) ∧ StrsAt wx (fun g => P g ∨ w.heap.size ≤ g) m TA ∧ T = TabA.tab TA ∧ Only P w wx)
   case first =>
    rcases HC.out with ⟨rfl, hB, hTe⟩ | ⟨m, TA, rfl, hB, hm, hA, hTe⟩
    ·have HB := jh (ja hB hTe)
     have f0 : wr.frozen? ⟨tb, 0, none⟩ = false := hB.frozen 0
     have c0 : wr.cell? ⟨tb, 0, none⟩ = some (.map none) := hB.cell 0
     have htl3 : tb < wr.heap.size := hB.lt
     clear hB hTe
     go_wp2_with fail
     go_meet
     have hMN := MapAt.new (enc := strE) (wr.setCell ⟨tb, 0, none⟩ (.map (some wr.heap.size)))
     simp only [World.size_setCell] at hMN
     exact ⟨wr.heap.size, [], (HB.out.1.set_ 0 _).alloc _, .inr hz3, StrsAt.nil_ hMN, HB.out.2, ((jo HBL.out).tr (Only.set_ (p := ⟨tb, 0, none⟩) htl.1 _)).tr (Only.alloc _)⟩
    ·have HB := jh (ja hB (ja hm (ja hA hTe)))
     clear hB hm hA hTe
     go_wp2_with fail
     go_meet
     exact ⟨m, TA, HB.out.1, .inl HB.out.2.1, HB.out.2.2.1.mono (fun g h => .inl h), HB.out.2.2.2, jo HBL.out⟩
   case rest =>
    obtain ⟨m, TA, hB, hm, hA, hTe, hO⟩ := hcut
    have HTE := jh hTe
    have HM := jh hm
    clear HC HBL hTe hm
    go_wp2_with fail
    go_loopw [49] (fun i wr => ∃ (k : Nat) (TA' : TabA), k ≤ l.length ∧ i = .int .i64 k ∧ Blk wr tb 252 [.map (some m)] ∧ StrsAt wr (fun g => P g ∨ w.heap.size ≤ g) m TA' ∧ TabA.tab TA' = putAll (l.take k) T ∧ Only P w wr) (fun i wr => l.length - (intOf i).toNat)
    case atStart => exact ⟨0, TA, Nat.zero_le _, rfl, hB, hA, HTE.out.symm, hO⟩
    case round =>
     clear hB hA hO
     obtain ⟨k, TA', hkl, rfl, hB, hA, hpa, hO⟩ := hrel
     have HPA := jh hpa; clear hpa
     by_cases hlt : k < l.length
     ·have hlk := jg hlt
      have hrow := HR.out.same (w' := wr) (Same.of_only hO (fun g hq => HPQ.out g hq.1)) hO.size
      obtain ⟨bb, o, cs, rfl, hP, hbw, hrep, hcs⟩ := hrow.at_ hlk
      have hts := take_snoc l k hlt
      have hfs := HF.out.2 _ (List.getElem_mem hlt)
      generalize l[k] = x at hlk hrep hts hfs
      obtain ⟨Ae, ce, Ak, ck, rfl, hxn, _, _, hre, _, _, hrk⟩ := stream_rep.1 hrep
      have c0 := hcs 0 _ rfl; have c1 := hcs 1 _ rfl; have c2 := hcs 2 _ rfl; simp only [StreamR_size, Nat.add_zero] at c0 c1 c2
      have hlt' : (k : Int) < l.length := by omega
      have CE := clone_Event Ae ce x.events _ (wr.alloc (.cells #[.string x.name, .slice Ae x.events.length ce, .slice Ak x.keys.length ck] 199)) (hre.ext ((jb _ _).al _)) (by omega)
      have HPD := jh (ja hts (ja hfs (ja hxn hrk)))
      have HS := jh (ja hB (ja hA hO))
      have BX := Blk.new wr 199 [.string x.name, .slice Ae x.events.length ce, .slice Ak x.keys.length ck]
      clear hts hfs hcs hrep hlk hre hrk hB hA hO hrow hP hbw hxn
      go_wp2_with fail
      refine CE.mono ?_
      clear CE c0 c1 c2
      rintro e w2 ⟨⟨ve, rfl, hoe⟩, hb2⟩
      have hb2' := ((jb wr.heap.size wr).al _).tr hb2
      have hz2 : wr.heap.size < w2.heap.size := by have := hb2.size; simp at this; omega
      have hoe := (hoe.plain (S' := fun _ => False) event_plain).base' (base' := wr.heap.size) (by simp)
      have B2 := BX.ext hb2
      obtain ⟨Av, cv, rfl, _⟩ := hoe.form
      have c2 : w2.cell? ⟨wr.heap.size, 2, none⟩ = some (.slice Ak x.keys.length ck) := B2.cell 2
      clear hb2 BX
      go_upto_region 17 with fail
      have hM1 := (MapAt.new (enc := strE) w2).alloc (.cells #[.slice Av x.events.length cv, .map (some w2.heap.size)] 287)
      have hK1 := Blk.new1 w2 (.map #[] 0) 287 [.slice Av x.events.length cv, .map (some w2.heap.size)]
      refine forget (M := fun W => Code.wp _ _ _ _ W) (fun W => Below w2.heap.size w2 W ∧ Blk W (w2.heap.size + 1) 287 [.slice Av x.events.length cv, .map (some w2.heap.size)] ∧ MapAt strE W w2.heap.size []) ⟨((jb _ _).al _).al _, hK1, hM1⟩ ?_
      clear hM1 hK1 c2
      rintro w3 ⟨hb3, hK3, hM3⟩
      have hb03 := hb2'.tr hb3
      have hoe3 := hoe.ext hb3
      have hlte := hoe.lt
      have c2 : w3.cell? ⟨wr.heap.size, 2, none⟩ = some (.slice Ak x.keys.length ck) := (B2.ext hb3).cell 2
      have HRK := jh ((HPD.out.2.2.2.ext hb03).mono (Q := fun g => Q g ∧ g < w.heap.size) (fun g h _ => h))
      have hzw : w.heap.size ≤ wr.heap.size := HS.out.2.2.size
      have HW3 := jh (ja hb03 (ja hoe3 (ja hlte (ja hK3 hzw))))
      have hz23 : w.heap.size ≤ wr.heap.size ∧ wr.heap.size < w2.heap.size ∧ w2.heap.size + 1 < w3.heap.size := ⟨hzw, hz2, hK3.lt⟩
      have HB2 := jh (B2.ext hb3)
      clear B2 hb3 hb2' hoe hb03 hoe3 hlte hzw hz2
      generalize hz0 : wr.heap.size = z0 at *
      have HZ0 := jh hz0
      clear hz0
      have hkl2 : x.keys.length ≤ 40000 := HPD.out.2.1.2
      go_wp2_with fail
      clear c2
      go_loopw [62] (fun j wr => ∃ (i : Nat), i ≤ x.keys.length ∧ j = .int .i64 i ∧ MapAt strE wr w2.heap.size ((keysOf (x.keys.take i)).map fun p => (p.1, p.2.val)) ∧ Only (fun g => g = w2.heap.size) w3 wr) (fun j wr => x.keys.length - (intOf j).toNat)
      case atStart => exact ⟨0, Nat.zero_le _, rfl, hM3, Only.refl _ _⟩
      case round =>
       obtain ⟨i, hik, rfl, hKM, hq⟩ := hrel
       have hK := HW3.out.2.2.2.1.only hq (fun h => by have : w2.heap.size + 1 = w2.heap.size := h; omega)
       by_cases hit : i < x.keys.length
       ·have hli := jg hit
        have htk := take_snoc x.keys i hit
        generalize x.keys[i] = y at hli htk
        obtain ⟨kb, ko, cs, rfl, _, _, hrep, hcs⟩ := (HRK.out.same (Same.of_only hq (fun g hg h => by subst h; omega)) hq.size).at_ hli
        obtain ⟨rfl, hyf⟩ := known_rep.1 hrep
        unfold Known.cells at hcs
        have c0 := hcs 0 _ rfl; have c1 := hcs 1 _ rfl; have c2 := hcs 2 _ rfl; have c3 := hcs 3 _ rfl; have c4 := hcs 4 _ rfl; simp only [KnownR_size, Nat.add_zero] at c0 c1 c2 c3 c4
        have hit' : (i : Int) < x.keys.length := by omega
        have HY := jh (ja htk hyf)
        have hD : PuD (w2.heap.size + 1) w2.heap.size wr.heap.size y (wr.alloc (.cells #[.string y.key, .int .i64 y.first, .int .i64 y.stamp.wall, .int .i64 y.stamp.logic, .int .i64 y.stamp.node] 49)) := ⟨(hK.alloc _).cell 1, Blk.new wr 49 y.cells⟩
        have hKM2 := hKM.alloc (.cells #[.string y.key, .int .i64 y.first, .int .i64 y.stamp.wall, .int .i64 y.stamp.logic, .int .i64 y.stamp.node] 49)
        have hq2 : Only (fun g => g = w2.heap.size) w3 (wr.alloc (.cells #[.string y.key, .int .i64 y.first, .int .i64 y.stamp.wall, .int .i64 y.stamp.logic, .int .i64 y.stamp.node] 49)) := hq.tr (Only.alloc _)
        have hne : wr.heap.size ≠ w2.heap.size := by have := hq.size; omega
        clear htk hcs hli hrep hyf
        go_upto_region 20 with fail
        haveI : Nonempty (Wd (PuD (w2.heap.size + 1) w2.heap.size wr.heap.size y)) := ⟨⟨_, hD⟩⟩
        have y1 := PuD.k' (sb := w2.heap.size + 1) (km := w2.heap.size) (bx := wr.heap.size) (x := y)
        have z0 := PuD.x0 (sb := w2.heap.size + 1) (km := w2.heap.size) (bx := wr.heap.size) (x := y)
        have z1 := PuD.x1 (sb := w2.heap.size + 1) (km := w2.heap.size) (bx := wr.heap.size) (x := y)
        have z2 := PuD.x2 (sb := w2.heap.size + 1) (km := w2.heap.size) (bx := wr.heap.size) (x := y)
        have z3 := PuD.x3 (sb := w2.heap.size + 1) (km := w2.heap.size) (bx := wr.heap.size) (x := y)
        have z4 := PuD.x4 (sb := w2.heap.size + 1) (km := w2.heap.size) (bx := wr.heap.size) (x := y)
        clear c0 c1 c2 c3 c4 hK hKM hq
        generalize (wr.alloc (.cells #[.string y.key, .int .i64 y.first, .int .i64 y.stamp.wall, .int .i64 y.stamp.logic, .int .i64 y.stamp.node] 49)) = w4 at *
        generalize wr.heap.size = bx at *
        refine wp_region_mix (.seg [0, 1, 2, 3, 4, 5, 6] 7 (.leaf [])) (fun w' => ∃ d : Wd (PuD (w2.heap.size + 1) w2.heap.size bx y), w' = d.w) (by kernel_rfl) (by kernel_rfl) (fun _ _ d _ _ h => by cases d <;> exact h) (ClsW.mk (D := PuD (w2.heap.size + 1) w2.heap.size bx y) ⟨hD.k, hD.x⟩) ?_
        unfold wpMix; simp only [pick, j1, j2, j3, j4]
        (repeat (show wpQuiet _ _ _ _ (_ :: _) _; go_big_quiet_step (fail))); refine qn ?_
        refine wpList_mapUpdate_map strKey rfl rfl (.tmp 69) (.tmp 71) (.tmp 72) 285 rfl Tryz.underlying285 rfl (hKM2.drewN 1) y.key rfl (.agg #[.string y.key, .int .i64 y.first, .int .i64 y.stamp.wall, .int .i64 y.stamp.logic, .int .i64 y.stamp.node]) rfl ?_
        intro w5 hM5 hO5
        have hD5 : PuD (w2.heap.size + 1) w2.heap.size bx y w5 := ⟨(World.cell?_of_block (w := w4) (a := ⟨w2.heap.size + 1, 1, none⟩) (hO5.block (w2.heap.size + 1) (lt_of_cell hD.k) (fun h => by have : w2.heap.size + 1 = w2.heap.size := h; omega))).trans hD.k, hD.x.only (F := fun g => g = w2.heap.size) ((jo (jb _ w4).drew).tr hO5) hne⟩
        try go_simp
        dsimp only [wpList, SegQ]
        refine ⟨fun w' => ∃ d : Wd (PuD (w2.heap.size + 1) w2.heap.size bx y), w' = d.w, ClsW.mk (D := PuD (w2.heap.size + 1) w2.heap.size bx y) hD5, fun _ h => h, ?_⟩
        unfold wpMix; simp only [pick, List.filterMap_nil]
        (repeat (show wpQuiet _ _ _ _ (_ :: _) _; go_big_quiet_step (fail))); refine qn ?_
        have hM6 : MapAt strE w5 w2.heap.size ((keysOf (x.keys.take (i + 1))).map fun p => (p.1, p.2.val)) := by
         rw [HY.out.1, keysOf_snoc, ← putA_map (fun z : Known => z.val) y.key y, ← assocPut_eq]
         exact hM5
        have hO6 : Only (fun g => g = w2.heap.size) w3 w5 := (hq2.tr (jo (jb _ w4).drew)).tr hO5
        have HZ := jh (ja hM6 hO6)
        clear hM5 hO5 hD5 hM6 hO6 hq2 hKM2 hD y1 z0 z1 z2 z3 z4
        go_wp2_with fail
        go_round
        case rel => exact ⟨i + 1, by omega, by go_num, HZ.out.1, HZ.out.2⟩
        case measure => simp [intOf]; omega
       ·have hin : i = x.keys.length := by omega
        subst hin
        rw [List.take_length] at hKM
        have hBX := HB2.out.only hq (fun h => by have : z0 = w2.heap.size := h; omega)
        have hmz : m < z0 := by have := HS.out.2.1.map.lt; have := HZ0.out; omega
        have hrw : Below z0 _ wr := HW3.out.1.trans (hq.low (fun g hg => by have : g = w2.heap.size := hg; omega) (by omega))
        have hBT := HS.out.1.below hrw (by have := HS.out.1.lt; have := HZ0.out; omega)
        have hMm := HS.out.2.1.map.block (hrw.block m hmz)
        have hKS := HW3.out.2.2.2.1.only hq (fun h => by have : w2.heap.size + 1 = w2.heap.size := h; omega)
        have hEV := HW3.out.2.1.only hq (fun _ h => h.elim) (fun g hg h => by have := (HW3.out.2.2.1 g hg).2; have : g = w2.heap.size := h; omega)
        have hD : ApD tb m z0 0 x.name wr := ⟨hBT.cell 0, hBX.cell 0⟩
        have hne : m ≠ tb ∧ m ≠ z0 := ⟨fun e => by exact (hMm.not_cells hBT) e, by omega⟩
        haveI : Nonempty (Wd (ApD tb m z0 0 x.name)) := ⟨⟨_, hD⟩⟩
        have y1 := ApD.t' (tb := tb) (m := m) (b := z0) (o := 0) (n := x.name)
        have y0 := ApD.e' (tb := tb) (m := m) (b := z0) (o := 0) (n := x.name)
        have HG := jh (ja hKM (ja hrw (ja hBT (ja hKS hEV))))
        clear hKM hq hBX hrw hKS hEV
        go_upto_region 22 with fail
        refine wp_region_mix (.seg [0, 1, 2, 3, 4, 5, 6] 7 (.leaf [])) (fun w' => ∃ d : Wd (ApD tb m z0 0 x.name), w' = d.w) (by kernel_rfl) (by kernel_rfl) (fun _ _ d _ _ h => by cases d <;> exact h) (ClsW.mk (D := ApD tb m z0 0 x.name) ⟨hD.t, hD.e⟩) ?_
        unfold wpMix; simp only [pick, j1, j2, j3, j4]
        (repeat (show wpQuiet _ _ _ _ (_ :: _) _; go_big_quiet_step (fail))); refine qn ?_
        refine wpList_mapUpdate_map strKey rfl rfl (.tmp 77) (.tmp 79) (.tmp 80) 250 rfl Tryz.underlying250 rfl (hMm.drewN 1) x.name rfl (ptrV (w2.heap.size + 1)) rfl ?_
        intro wB hMB hOD
        have hOD2 : Only (fun g => g = m) wr wB := (jo (jb _ wr).drew).tr hOD
        have hD' : ApD tb m z0 0 x.name wB := ⟨(World.cell?_of_block (w := wr) (a := ⟨tb, 0, none⟩) (hOD2.block tb hBT.lt (fun e => hne.1 (show tb = m from e).symm))).trans hD.t, (World.cell?_of_block (w := wr) (a := ⟨z0, 0, none⟩) (hOD2.block z0 (lt_of_cell hD.e) (fun e => hne.2 (show z0 = m from e).symm))).trans hD.e⟩
        try go_simp
        dsimp only [wpList, SegQ]
        refine ⟨fun w' => ∃ d : Wd (ApD tb m z0 0 x.name), w' = d.w, ClsW.mk (D := ApD tb m z0 0 x.name) hD', fun _ h => h, ?_⟩
        unfold wpMix; simp only [pick, List.filterMap_nil]
        (repeat (show wpQuiet _ _ _ _ (_ :: _) _; go_big_quiet_step (fail))); refine qn ?_
        rw [assocPut_eq] at hMB
        obtain ⟨hB, hA, hO⟩ := HS.out
        have hO1 := (Only.of_belowB (F := fun g => g = m ∨ z0 ≤ g) HG.out.2.1 (fun g h => .inr h)).tr (hOD2.mono (fun g h => Or.inl h))
        have hTB : TSAt wB ⟨w2.heap.size + 1, .slice Av x.events.length cv, w2.heap.size⟩ ⟨x.events, keysOf x.keys⟩ := by
         refine ⟨HG.out.2.2.2.1.only hOD2 (fun h => by have : w2.heap.size + 1 = m := h; omega), (HG.out.2.2.2.2.zero).only hOD2 (fun _ h => h.elim) (fun g hg h => by have := (HW3.out.2.2.1 g hg).1; have : g = m := h; omega), HG.out.1.only hOD2 (fun h => by have : w2.heap.size = m := h; omega), keysOf_nodup _, fun p hp => ?_⟩
         obtain ⟨h1, h2⟩ := keysOf_mem hp
         obtain ⟨_, _, _, _, _, _, hfk⟩ := rowAll HPD.out.2.2.2 h1
         rw [h2]; exact ⟨(known_rep.1 hfk).2, (known_rep.1 hfk).2.1⟩
        have hzw := HZ0.out
        have hA' := hA.more (n := x.name) (P' := fun g => P g ∨ w.heap.size ≤ g) (by rw [hzw]; exact hO1) hMB hTB (by rw [hzw]; exact ⟨by show z0 ≤ w2.heap.size + 1; omega, by show z0 ≤ w2.heap.size; omega, fun g hg => (HW3.out.2.2.1 g hg).1⟩) HPD.out.2.2.1 (fun g h => h) (fun g h => .inr (by have := hO.size; omega))
        have hBB := hBT.only hOD2 (fun e => hne.1 (show tb = m from e).symm)
        have hOO : Only P w wB := hO.trans hO1 (fun g hg h => by
         have := hO.size
         rcases h with h | h
         ·subst h
          rcases HM.out with h1 | h1
          ·exact h1
          ·omega
         ·omega)
        have hpp : TabA.tab (putA x.name (((⟨x.events, keysOf x.keys⟩ : TS), (⟨w2.heap.size + 1, .slice Av x.events.length cv, w2.heap.size⟩ : SB))) TA') = putAll (l.take (k + 1)) T := by
         rw [HPD.out.1, putAll_snoc, ← HPA.out]
         unfold TabA.tab
         rw [← putA_map (fun q : TS × SB => q.1)]
        have HZ := jh (ja hBB (ja hA' (ja hpp hOO)))
        clear hMB hOD hOD2 hD' hO1 hTB hA' hBB hOO hpp hzw hD hMm y0 y1 hB hA hO
        go_wp2_with fail
        go_round
        case rel => exact ⟨k + 1, _, by omega, by go_num, HZ.out.1, HZ.out.2.1, HZ.out.2.2.1, HZ.out.2.2.2⟩
        case measure => simp [intOf]; omega
     ·have hkn : k = l.length := by omega
      subst hkn
      rw [List.take_length] at HPA
      go_wp2_with fail
      go_ret
      unfold PutOut putT
      rw [HOK.out, if_pos rfl]
      exact ⟨rfl, ⟨.inl htl.1, .inr ⟨m, TA', hB, HM.out, hA, HPA.out.symm⟩⟩, hO⟩
end Go.Proofs.YtcmjgghkmdbphaaGreatDoor
namespace Go.Proofs.YtcmjgghkmdbphaaGreatDoor
open Go.RowKit
attribute [local go_sem] Range.val
theorem hashes_any (w : World) : Calls Tryz.prog 268 #[] w fun e w' => e = .returned allHashes.val ∧ Below w.heap.size w w' := by
 go_enter Tryz.func268, Tryz.ntmps268
 go_wp2_with fail
 exact bodyPost_blk rfl (Blk.new w 27 [.int .i64 0, .int .i64 4294967295, .int .i64 0, .int .i64 0]) rfl Tryz.underlying27 rfl (by kernel_rfl) rfl ⟨rfl, (jb _ _).al _⟩
def StB (g : Nat) (s : St) (v : SV) (W : World) : Prop := Blk W g 176 (s.cells v)
theorem StB.c5 {g : Nat} {s : St} {v : SV} (d : Wd (StB g s v)) : d.w.cell? ⟨g, 5, none⟩ = some (ptrV v.tb) := Blk.cell d.ok 5
theorem TabAt.low {w : World} {P : Nat → Prop} {tb : Nat} {T : Tab} (h : TabAt w P tb T) : TabAt w (fun k => P k ∧ k < w.heap.size) tb T := by
 obtain ⟨hp, ⟨hb, he⟩ | ⟨m, TA, hb, hm, hA, he⟩⟩ := h
 ·exact ⟨⟨hp, hb.lt⟩, .inl ⟨hb, he⟩⟩
 ·refine ⟨⟨hp, hb.lt⟩, .inr ⟨m, TA, hb, ⟨hm, hA.map.lt⟩, ⟨hA.map, hA.nd, fun p hp => ?_, hA.apart⟩, he⟩⟩
  obtain ⟨h1, h2, h3, h4⟩ := hA.each p hp
  exact ⟨h1, h2, ⟨⟨h3.b, h1.blk.lt⟩, ⟨h3.km, h1.km.lt⟩, fun g hg => ⟨h3.ev g hg, (h1.ev.lt g hg).2⟩⟩, h4⟩
structure StRest (w : World) (P : Nat → Prop) (s : St) (v : SV) : Prop where
 fit : i64 s.self ∧ i64 s.nodes ∧ i64 s.life ∧ i64 s.ceiling
 ring : RangeR.sl.rep w P [v.ring] s.ring
 held : MpAt txE HeldR aggV w P v.held s.held
 outcomes : MpAt txE OutcomeR aggV w P v.outcomes s.outcomes
 decided : MpAt txE IntR oneV w P v.decided s.decided
 frozen : RecR.sl.rep w P [v.frozen] s.frozen
 log : EventR.sl.rep w P [v.log] s.log
section
variable {w w' : World} {P Q : Nat → Prop} {s : St} {v : SV}
theorem StIn.rest (h : StIn w P s v) : StRest w P s v := ⟨h.fit, h.ring, h.held, h.outcomes, h.decided, h.frozen, h.log⟩
theorem StRest.full (h : StRest w P s v) (ht : TabAt w P v.tb s.table) : StIn w P s v := ⟨h.fit, h.ring, ht, h.held, h.outcomes, h.decided, h.frozen, h.log⟩
theorem StRest.same (h : StRest w P s v) (hs : Same P w w') : StRest w' P s v :=
 ⟨h.fit, RangeR.sl.same h.ring hs, h.held.same hs, h.outcomes.same hs, h.decided.same hs, RecR.sl.same h.frozen hs, EventR.sl.same h.log hs⟩
theorem StRest.mono (h : StRest w P s v) (hs : ∀ g, P g → g < w.heap.size → Q g) : StRest w Q s v :=
 ⟨h.fit, RangeR.sl.mono h.ring hs, h.held.mono hs, h.outcomes.mono hs, h.decided.mono hs, RecR.sl.mono h.frozen hs, EventR.sl.mono h.log hs⟩
end
def FreshOut (w : World) (P : Nat → Prop) (g : Nat) (s : St) (e : Ending) (w' : World) : Prop :=
 e = .returned (.tuple #[]) ∧ (∃ v, Blk w' g 176 (St.cells { s with table := freshT s.table } v) ∧ TabAt w' (fun k => w.heap.size ≤ k ∧ k < w'.heap.size) v.tb (freshT s.table) ∧ StRest w' P { s with table := freshT s.table } v) ∧ Only (· = g) w w' ∧ w'.cell? ⟨g, 6, none⟩ = w.cell? ⟨g, 6, none⟩
theorem fresh_any (g : Nat) (s : St) (P : Nat → Prop) (w : World) (h : StAt w P g s) (hg : ¬ P g) (hl : s.table.length ≤ 40000) (hf : ∀ p ∈ s.table, p.2.events.length ≤ 40000 ∧ p.2.keys.length ≤ 40000) (hF : PutFair (takeT s.table allHashes)) (hT : Tabs w) (h2 : 2 ≤ w.heap.size) :
 Calls Tryz.prog 191 #[ptrV g] w (FreshOut w P g s) := by
 have hgl := h.lt
 obtain ⟨v, hB, hI⟩ := h
 have HB := jh (ja hB hI)
 have HG := jh hg
 have HF := jh (ja hl (ja hf hF))
 have hb1 := (jb w.heap.size w).al (.cells #[.map none] 252)
 have HT1 := jh (ja hb1 (TabAt.new w))
 have hB1 := hB.ext hb1
 have y5 := StB.c5 (g := g) (s := s) (v := v)
 have C0 := tnew_any w
 have CT := jh (fun W (hW : Below w.heap.size w W) => take_any v.tb s.table allHashes P W (hI.table.ext hW) hl hf)
 unfold ptrV at y5 CT C0
 have HTB := jh (fun W (hW : Below w.heap.size w W) => hT.below hW)
 clear hB hI hg hf hF
 unfold ptrV
 go_enter Tryz.func191, Tryz.ntmps191
 go_wp2_with fail
 refine C0.mono ?_
 clear C0
 rintro e w1' ⟨rfl, rfl⟩
 go_upto_region 1 with fail
 generalize hw1 : (w.alloc (.cells #[.map none] 252)) = w1 at *
 have hz1 : w1.heap.size = w.heap.size + 1 := by rw [← hw1]; simp
 have HZ1 := jh hz1
 clear hw1
 have hD1 : StB g s v w1 := hB1
 haveI : Nonempty (Wd (StB g s v)) := ⟨⟨_, hD1⟩⟩
 refine wp_region_mix (.seg [0, 1, 2, 3, 4] 5 (.seg [] 6 (.seg [] 7 (.leaf [])))) (fun w' => ∃ d : Wd (StB g s v), w' = d.w) (by kernel_rfl) (by kernel_rfl) (fun _ _ d _ _ h => by cases d <;> exact h) (ClsW.mk (D := StB g s v) (Blk.drew hD1)) ?_
 unfold wpMix; simp only [pick, j1, j2, j3, j4]
 (repeat (show wpQuiet _ _ _ _ (_ :: _) _; go_big_quiet_step (fail))); refine qn ?_
 go_wp2_with fail
 refine (hashes_any w1.drew).mono ?_
 rintro e w2 ⟨rfl, hb2⟩
 have hb2' : Below w1.heap.size w1 w2 := (jb _ w1).drew.tr hb2
 have hb02 := HT1.out.1.tr hb2'
 go_wp2_with fail
 dsimp only [wpList, SegQ]
 refine ⟨fun w' => ∃ d : Wd (StB g s v), w' = d.w, ClsW.mk (D := StB g s v) (Blk.ext hD1 hb2'), fun _ h => h, ?_⟩
 unfold wpMix; simp only [pick, j1, j2, j3, j4]
 (repeat (show wpQuiet _ _ _ _ (_ :: _) _; go_big_quiet_step (fail))); refine qn ?_
 go_wp2_with fail
 refine (CT.out w2 hb02).mono ?_
 rintro e w3 ⟨⟨tv, rfl, htv⟩, hb3⟩
 have hb13 := hb2'.tr hb3
 have hz2 := hb2'.size
 have hz3 := hb3.size
 obtain ⟨At, ct, rfl, hct⟩ := htv.form
 go_wp2_with fail
 dsimp only [wpList, SegQ]
 refine ⟨fun w' => ∃ d : Wd (StB g s v), w' = d.w, ClsW.mk (D := StB g s v) (Blk.ext hD1 hb13), fun _ h => h, ?_⟩
 unfold wpMix; simp only [pick, j1, j2, j3, j4]
 (repeat (show wpQuiet _ _ _ _ (_ :: _) _; go_big_quiet_step (fail))); refine qn ?_
 have HT3 := HT1.out.2.ext hb13
 have hP3 := put_any w.heap.size [] At ct (takeT s.table allHashes) (· = w.heap.size) (fun k => w2.heap.size ≤ k) w3 HT3 (htv.row (fun _ h => h)) (fun k hk h => by have := HZ1.out; omega) HF.out.2.2 (HTB.out w3 (hb02.tr hb3)) (by have := HZ1.out; omega)
 have HT4 := jh (ja hb13 (hb02.tr hb3))
 unfold ptrV at hP3
 go_wp2_with fail
 refine hP3.mono ?_
 clear hP3
 rintro e w4 ⟨rfl, htab, hO4⟩
 have hD4 : StB g s v w4 := Blk.only (Blk.ext hD1 hb13) hO4 (fun h => by have : g = w.heap.size := h; omega)
 have HO4 := jh (ja htab (ja hO4 hD4))
 go_wp2_with fail
 dsimp only [wpList, SegQ]
 refine ⟨fun w' => ∃ d : Wd (StB g s v), w' = d.w, ClsW.mk (D := StB g s v) hD4, fun _ h => h, ?_⟩
 unfold wpMix; simp only [pick, List.filterMap_nil]
 (repeat (show wpQuiet _ _ _ _ (_ :: _) _; go_big_quiet_step (fail))); refine qn ?_
 clear htab hO4 HT3 htv y5
 have z0 : w4.cell? ⟨g, 5, none⟩ = some (ptrV v.tb) := Blk.cell hD4 5
 unfold ptrV at z0
 have z1 : w4.frozen? ⟨g, 5, none⟩ = false := Blk.frozen hD4 5
 have hz14 := hb13.size
 clear hD4 hD1 hB1 hb2 hb2' hb02 hb13 hb3 hct
 go_wp2_with fail
 (try simp only [Exit.inBlock, Exit.then]); refine bodyPost_end (results_none rfl _ _ _) rfl ?_
 have hO4 : Only (· = g) w w4 := (jo HT4.out.2).trans HO4.out.2.1 (fun k hk h => by have : k = w.heap.size := h; omega)
 have hOW : Only (· = g) w (w4.setCell ⟨g, 5, none⟩ (.pointer (some ⟨w.heap.size, 0, none⟩))) := hO4.tr (Only.set_ (F := fun k => k = g) rfl _)
 have hI := (HB.out.2.rest.same (Same.of_only hOW fun k hk e => HG.out (e ▸ hk)))
 have hTb := (HO4.out.1.low.same (Same.set_ (p := ⟨g, 5, none⟩) (fun h => by have : g = w.heap.size ∨ w3.heap.size ≤ g := h.1; have := HZ1.out; omega) (.pointer (some ⟨w.heap.size, 0, none⟩)))).mono (Q := fun k => w.heap.size ≤ k ∧ k < (w4.setCell ⟨g, 5, none⟩ (.pointer (some ⟨w.heap.size, 0, none⟩))).heap.size) (fun k hk => ⟨by have : k = w.heap.size ∨ w3.heap.size ≤ k := hk.1; have := HZ1.out; omega, by have h4 : w4.heap.size ≤ (w4.setCell ⟨g, 5, none⟩ (.pointer (some ⟨w.heap.size, 0, none⟩))).heap.size := (Only.set_ (F := fun k => k = g) (w := w4) (p := ⟨g, 5, none⟩) rfl (.pointer (some ⟨w.heap.size, 0, none⟩))).size; have := hk.2; omega⟩)
 refine ⟨rfl, ⟨{ v with tb := w.heap.size }, Blk.set_ HO4.out.2.2 5 _, hTb, hI.fit, hI.ring, hI.held, hI.outcomes, hI.decided, hI.frozen, hI.log⟩, hOW, ?_⟩
 have h6 := (Blk.set_ HO4.out.2.2 5 (.pointer (some ⟨w.heap.size, 0, none⟩))).cell 6
 exact h6.trans (HB.out.1.cell 6).symm
end Go.Proofs.YtcmjgghkmdbphaaGreatDoor
namespace Go.Proofs.YtcmjgghkmdbphaaGreatDoor
open Go.RowKit
theorem clip_any (A : Option Addr) (n c : Nat) (w : World) (hc : n ≤ c) (hm : c ≤ 9223372036854775807) (hn : A = none → n = 0) :
 Calls Tryz.prog 256 #[.slice A n c] w fun e w' => e = .returned (.slice A n n) ∧ w = w' := by
 have hm' : n ≤ 9223372036854775807 := by omega
 cases A with
 | none =>
   obtain rfl := hn rfl
   go_enter Tryz.func256, Tryz.ntmps256
   go_wp2_with fail
   go_ret
   exact ⟨rfl, rfl⟩
 | some a =>
   clear hn
   go_enter Tryz.func256, Tryz.ntmps256
   go_wp2_with fail
   go_ret
   exact ⟨rfl, rfl⟩
section
variable {P : Program} (w : World)
theorem run_append_full {α : Type} {R : Rep α} (t ty e : TypeId) (i : TypeInfo) (z : Value) (bytes : Nat) (ht : P.underlying t = some (.slice e)) (hi : P.info? e = some i) (hz : i.zero = some z)
 (hsize : i.size = R.size) (hby : i.bytes = bytes) (hzs : z.cells.size = R.size)
 (A : Option Addr) (l : List α) (L Q : Nat → Prop) (hr : R.Row w L A l) (A2 : Option Addr) (c2 : Nat) (m : List α) (hr2 : R.Row w Q A2 m)
 (h63 : l.length + m.length ≤ maxLen) (hbytes : (l.length + m.length) * bytes ≤ 140737488355328) (hm : 0 < m.length) :
 ∃ v' w', (Builtin.append_ #[t, t] ty #[.slice A l.length l.length, .slice A2 m.length c2]).run P w = .ok v' w' ∧ R.Own w' w.heap.size e (fun k => (L k ∨ Q k) ∧ k < w.heap.size) v' (l ++ m) ∧ Below w.heap.size w w' := by
 obtain ⟨xs, hf, hl, hc⟩ := hr.flat
 obtain ⟨ys, hf2, hl2, hc2⟩ := hr2.flat
 obtain ⟨b2, o2, rfl, hb2, hbl2, hcell2⟩ := hc2 hm
 have hold : (Builtin.firstCells i.size l.length (.slice A l.length l.length)).run P w.drew = .ok xs.toArray w.drew := by
  rcases Nat.eq_zero_or_pos l.length with h0 | h0
  ·have hx : xs = [] := List.eq_nil_of_length_eq_zero (by rw [hl, h0]; simp)
   subst hx
   rw [h0]
   cases A with
   | none => exact run_firstCells_none w.drew i.size 0 0 0
   | some a => exact run_firstCells_some w.drew i.size 0 a 0 0 [] (by simp) (by simp)
  ·obtain ⟨b, o, rfl, hb, hbl, hcell⟩ := hc h0
   exact run_firstCells_some w.drew i.size l.length ⟨b, o, none⟩ l.length l.length xs (by rw [hl, hsize]) (fun j u hu => by rw [add_off]; simpa using hcell j u hu)
 have hsrc : Src P i.size t (.slice (some ⟨b2, o2, none⟩) m.length c2) m.length ys w := Src.ofSlice w ht ⟨b2, o2, none⟩ m.length c2 ys (by rw [hl2, hsize]) (fun j u hu => by rw [add_off]; exact hcell2 j u hu) hf2.ones
 have hrun := run_append_grow_src w t t ty e i z ht hi hz A l.length l.length xs hold _ m.length ys hsrc (by omega) (by unfold maxLen at h63; omega) (growslice_fits (by omega) (by rw [hby]; exact hbytes))
 have hge := grownCap_ge w (l.length + m.length) l.length e
 have hle := grownCap_le_maxLen w (l.length + m.length) l.length e h63
 generalize grownCap w (l.length + m.length) l.length e = cap at *
 have hbl : Below w.heap.size w (w.drew.alloc (.cells ((xs ++ ys).toArray ++ Builtin.zeroCells z.cells (cap - (l.length + m.length))) e)) := (jb _ w).drew.al _
 refine ⟨_, _, hrun, ⟨xs ++ ys, ⟨by rw [List.length_append, List.length_append, hl, hl2, Nat.add_mul], .inr ⟨w.heap.size, cap, _, by rw [List.length_append], Nat.le_refl _, heap_alloc_new w.drew _, by rw [List.length_append]; exact hge, hle, ?_, ?_⟩⟩, ?_⟩, hbl⟩
 ·simp only [Array.size_append, List.size_toArray, List.length_append, hl, hl2, size_zeroCells, hzs]
  rw [← Nat.add_mul, ← Nat.add_mul]
  congr 1
  omega
 ·rw [Array.toList_append, List.length_append, Nat.add_mul, ← hl, ← hl2, ← List.length_append]
  exact List.take_left
 ·have k2 : R.flat w (fun k => (L k ∨ Q k) ∧ k < w.heap.size) (xs ++ ys) (l ++ m) := (hf.mono fun g hg hl => ⟨.inl hg, hl⟩).app (hf2.mono fun g hg hl => ⟨.inr hg, hl⟩)
  exact (k2.same (js hbl)).mono fun g hg _ => ⟨hg, fun h => by have h' : g = w.heap.size := Option.some.inj h; have := hg.2; omega⟩
theorem run_append_none (t ty e : TypeId) (i : TypeInfo) (ht : P.underlying t = some (.slice e)) (hi : P.info? e = some i) (A : Option Addr) (n : Nat) (A2 : Option Addr) (c2 : Nat) : (Builtin.append_ #[t, t] ty #[.slice A n n, .slice A2 0 c2]).run P w = .ok (.slice A n n) w := by
 cases A <;> cases A2 <;> simp [Builtin.append_, run_underlying ht, sizeOf, typeInfo, hi, Builtin.lenOf, Builtin.firstCells, storeCells, loadCells, loadCellsFrom]
theorem wpList_append_full {α : Type} {R : Rep α} {ops : Array Oper} {rest : List Oper} {o : Oper} {a : Act} {Q' : Exit → Act → World → Prop} (hgd : o.guard = none) (s x : Operand) (t : TypeId)
 (ho : o.op = .call { callee := .builtin .append, args := #[s, x], argTypes := #[t, t] })
 (e : TypeId) (i : TypeInfo) (z : Value) (bytes : Nat) (ht : P.underlying t = some (.slice e)) (hi : P.info? e = some i) (hz : i.zero = some z)
 (hsize : i.size = R.size) (hby : i.bytes = bytes) (hzs : z.cells.size = R.size)
 (A : Option Addr) (l : List α) (L Q : Nat → Prop) (hs : a.eval s = .slice A l.length l.length) (hr : R.Row w L A l) (A2 : Option Addr) (c2 : Nat) (m : List α) (hx : a.eval x = .slice A2 m.length c2) (hr2 : R.Row w Q A2 m)
 (h63 : l.length + m.length ≤ maxLen) (hbytes : (l.length + m.length) * bytes ≤ 140737488355328)
 (h : ∀ v' w', R.sl.rep w' (fun k => L k ∨ (Q k ∧ k < w.heap.size) ∨ w.heap.size ≤ k) [v'] (l ++ m) → Below w.heap.size w w' → wpList P ops Q' rest (a.put o.dst v') w') : wpList P ops Q' (o :: rest) a w :=
 wpList_plain hgd fun _ hK => by
  have hmain : ∃ v' w', (Builtin.append_ #[t, t] o.type #[.slice A l.length l.length, .slice A2 m.length c2]).run P w = .ok v' w' ∧ R.sl.rep w' (fun k => L k ∨ (Q k ∧ k < w.heap.size) ∨ w.heap.size ≤ k) [v'] (l ++ m) ∧ Below w.heap.size w w' := by
   rcases Nat.eq_zero_or_pos m.length with h0 | h0
   ·have hm : m = [] := List.eq_nil_of_length_eq_zero h0
    subst hm
    refine ⟨_, _, run_append_none w t o.type e i ht hi A l.length A2 c2, ?_, jb _ _⟩
    rw [List.append_nil]
    exact ⟨A, _, rfl, Nat.le_refl _, by unfold maxLen at h63; omega, hr.mono fun g hg _ => .inl hg⟩
   ·obtain ⟨v', w', hrun, hown, hb⟩ := run_append_full w t o.type e i z bytes ht hi hz hsize hby hzs A l L Q hr A2 c2 m hr2 h63 hbytes h0
    refine ⟨v', w', hrun, (hown.mono fun g hg _ => ?_).sl fun g hg => .inr (.inr hg), hb⟩
    rcases hg with ⟨h1 | h1, h2⟩
    ·exact .inl h1
    ·exact .inr (.inl ⟨h1, h2⟩)
  obtain ⟨v', w', hrun, h2, h3⟩ := hmain
  unfold Oper.wp execOp
  simp only [ho, resolve, invoke, builtin, Sem.run_bind, Sem.run_pure, Result.andThen_ok, List.map_toArray, List.map_cons, List.map_nil, hs, hx, hrun]
  exact hK _ _ (h v' w' h2 h3)
end
end Go.Proofs.YtcmjgghkmdbphaaGreatDoor
namespace Go.Proofs.YtcmjgghkmdbphaaGreatDoor
open Go.RowKit
theorem makeP_len (p : Put) (a b : Int) (st : Stamp) (ix : Int) : ∀ (d : List Str) (k n : Nat), (makeP p a b st ix d k n).length = d.length
 | [], _, _ => rfl
 | x :: d, k, n => by simp [makeP, makeP_len p a b st ix d]
theorem makeP_snoc (p : Put) (a b : Int) (st : Stamp) (ix : Int) (x : Str) : ∀ (d : List Str) (k n : Nat), makeP p a b st ix (d ++ [x]) k n = makeP p a b st ix d k n ++ [⟨p.stream, a + b * ((k + d.length : Nat) : Int), x, st, ix + ((n + d.length : Nat) : Int)⟩]
 | [], k, n => by simp [makeP]
 | y :: d, k, n => by
   simp only [List.cons_append, makeP, makeP_snoc p a b st ix x d, List.length_cons]
   rw [show k + 1 + d.length = k + (d.length + 1) from by omega, show n + 1 + d.length = n + (d.length + 1) from by omega]
theorem makeF_snoc (p : Put) (st : Stamp) (ix : Int) : ∀ (l : List Put) (f : List Int) (n : Nat), makeF (l ++ [p]) f st ix n = makeF l f st ix n ++ makeP p ((f.drop l.length).headD 0) (if f.drop l.length = [] then 0 else 1) st ix p.data 0 (n + (makeF l f st ix n).length)
 | [], f, n => by simp [makeF]
 | q :: l, f, n => by
   simp only [List.cons_append, makeF, makeF_snoc p st ix l, List.append_assoc, List.length_append, makeP_len, List.length_cons]
   rw [List.drop_tail, show n + q.data.length + (makeF l f.tail st ix (n + q.data.length)).length = n + (q.data.length + (makeF l f.tail st ix (n + q.data.length)).length) from by omega]
theorem makeF_len (st : Stamp) (ix : Int) : ∀ (l : List Put) (f : List Int) (n : Nat), (∀ p ∈ l, p.data.length ≤ 20) → (makeF l f st ix n).length ≤ 20 * l.length
 | [], _, _, _ => by simp [makeF]
 | q :: l, f, n, h => by
   have h1 := makeF_len st ix l f.tail (n + q.data.length) (fun p hp => h p (List.mem_cons_of_mem _ hp))
   have h2 := h q (by simp)
   simp only [makeF, List.length_append, makeP_len, List.length_cons]
   omega
def fstF (f : List Int) (k : Nat) : Int := (f.drop k).headD 0
def stepF (f : List Int) (k : Nat) : Int := if f.drop k = [] then 0 else 1
theorem fst_at {f : List Int} {k : Nat} {n : Int} (h : f[k]? = some n) : fstF f k = n ∧ stepF f k = 1 := by
 have hl := (List.getElem?_eq_some_iff.1 h).1
 have hd : f.drop k = n :: f.drop (k + 1) := by
  rw [List.drop_eq_getElem_cons hl]
  rw [jg hl] at h
  injection h with h; rw [h]
 unfold fstF stepF; rw [hd]; simp
theorem fst_end {f : List Int} {k : Nat} (h : ¬ k < f.length) : fstF f k = 0 ∧ stepF f k = 0 := by
 unfold fstF stepF; rw [List.drop_eq_nil_of_le (by omega)]; simp
theorem make_any (b : Batch) (f : List Int) (st : Stamp) (ix : Int) (A Af : Option Addr) (c cf : Nat) (P Pf : Nat → Prop) (w : World) (hr : PutR.Row w P A b.puts) (hf : IntR.Row w Pf Af f) (hl : b.puts.length ≤ 8) (hd : ∀ p ∈ b.puts, p.data.length ≤ 20) (_hfl : f.length ≤ 100) (hfb : ∀ n ∈ f, -1000000000 ≤ n ∧ n ≤ 1000000000) (hst : st.fit) (hix : 0 ≤ ix ∧ ix ≤ 1000000) :
 Calls Tryz.prog 255 #[.agg #[.string b.key, .slice A b.puts.length c], .slice Af f.length cf, st.val, .int .i64 ix] w fun e w' => GotOwn EventR w.heap.size 202 (fun _ => False) (makeB b f st ix) e w' ∧ Below w.heap.size w w' := by
 have HR := jh (hr.mono (Q := fun g => g < w.heap.size) fun g _ h => h)
 have HF := jh (hf.mono (Q := fun g => g < w.heap.size) fun g _ h => h)
 have HD := jh (ja hd (ja hfb hst))
 have hmk := makeF_len st ix b.puts f 0 hd
 have HMK := jh (fun k => show (makeF (b.puts.take k) f st ix 0).length ≤ 160 from by
  have := makeF_len st ix (b.puts.take k) f 0 (fun p hp => hd p (List.mem_of_mem_take hp))
  have : (b.puts.take k).length ≤ 8 := by rw [List.length_take]; omega
  omega)
 clear hr hf hd hfb hst hmk
 obtain ⟨hix0, hix1⟩ := hix
 unfold Stamp.val
 have B0 := (Blk.new w 25 [.string b.key, .slice A b.puts.length c]).alloc (.cells #[.int .i64 st.wall, .int .i64 st.logic, .int .i64 st.node] 40)
 have B1 := Blk.new1 w (.cells #[.string b.key, .slice A b.puts.length c] 25) 40 [.int .i64 st.wall, .int .i64 st.logic, .int .i64 st.node]
 go_enter Tryz.func255, Tryz.ntmps255
 go_upto_region 1 with fail
 have hb1 := ((jb w.heap.size w).al (.cells #[.string b.key, .slice A b.puts.length c] 25)).al (.cells #[.int .i64 st.wall, .int .i64 st.logic, .int .i64 st.node] 40)
 have hs1 : ((w.alloc (.cells #[.string b.key, .slice A b.puts.length c] 25)).alloc (.cells #[.int .i64 st.wall, .int .i64 st.logic, .int .i64 st.node] 40)).heap.size = w.heap.size + 2 := by simp
 refine forget (M := fun W => Code.wp _ _ _ _ W) (fun W => Below w.heap.size w W ∧ Blk W w.heap.size 25 [.string b.key, .slice A b.puts.length c] ∧ Blk W (w.heap.size + 1) 40 [.int .i64 st.wall, .int .i64 st.logic, .int .i64 st.node] ∧ W.heap.size = w.heap.size + 2) ⟨hb1, B0, B1, hs1⟩ ?_
 clear B0 B1 hb1 hs1
 rintro w1 ⟨hb1, B0, B1, hs1⟩
 have x1 : w1.cell? ⟨w.heap.size, 1, none⟩ = some (.slice A b.puts.length c) := B0.cell 1
 have HB1 := jh (ja B1 hs1)
 clear B0 B1 hs1
 go_wp2_with fail
 clear x1
 go_loopw [8, 18] (fun out i wr => ∃ k : Nat, k ≤ b.puts.length ∧ i = .int .i64 k ∧ EventR.Own wr w1.heap.size 202 (fun _ => True) out (makeF (b.puts.take k) f st ix 0) ∧ Below w1.heap.size w1 wr) (fun _ i _ => b.puts.length - (intOf i).toNat)
 case atStart => exact ⟨0, Nat.zero_le _, rfl, by simpa [makeF] using Rep.Own.nil_, jb _ _⟩
 case round =>
  obtain ⟨k, hk, rfl, hout, hbl⟩ := hrel
  have HO := jh hout; clear hout
  by_cases hlt : k < b.puts.length
  ·have hlk := jg hlt
   have hts := take_snoc b.puts k hlt
   have hdl := HD.out.1 _ (List.getElem_mem hlt)
   obtain ⟨bb, o, cs, hAe, hP, hbw, hrep, hcs⟩ := (HR.out.ext (hb1.trans (hbl.mono hb1.size))).at_ hlk
   generalize b.puts[k] = p at hlk hts hdl hrep
   subst hAe
   obtain ⟨Ad, cd, rfl, hps, hpe, _, _, hrd⟩ := put_rep.1 hrep
   have c0 := hcs 0 _ rfl; have c1 := hcs 1 _ rfl; have c2 := hcs 2 _ rfl; simp only [PutR_size, Nat.add_zero] at c0 c1 c2
   have hlt' : (k : Int) < b.puts.length := by omega
   have HPD := jh (ja hts (ja hdl hrd))
   clear hcs hrep hlk hts hrd hP hbw
   go_upto_if 26 with fail
   have hb2 := hbl.trans (((jb wr.heap.size wr).al (.cells #[.string p.stream, .int .i64 p.expect, .slice Ad p.data.length cd] 69)).mono hbl.size)
   have BP := Blk.new wr 69 [.string p.stream, .int .i64 p.expect, .slice Ad p.data.length cd]
   have hO2 := HO.out.alloc (.cells #[.string p.stream, .int .i64 p.expect, .slice Ad p.data.length cd] 69)
   have hrd2 := HPD.out.2.2.ext ((jb wr.heap.size wr).al (.cells #[.string p.stream, .int .i64 p.expect, .slice Ad p.data.length cd] 69))
   have hzz : w1.heap.size ≤ wr.heap.size := hbl.size
   clear c0 c1 c2
   generalize (wr.alloc (.cells #[.string p.stream, .int .i64 p.expect, .slice Ad p.data.length cd] 69)) = w2 at *
   have hab : -1000000000 ≤ fstF f k ∧ fstF f k ≤ 1000000000 ∧ 0 ≤ stepF f k ∧ stepF f k ≤ 1 := by
    by_cases hkf : k < f.length
    ·obtain ⟨h1, h2⟩ := fst_at (jg hkf)
     have := HD.out.2.1 _ (List.getElem_mem hkf)
     omega
    ·have := fst_end hkf; omega
   go_cut [11, 12] (fun f0 s0 wx => f0 = .int .i64 (fstF f k) ∧ s0 = .int .i64 (stepF f k) ∧ wx = w2)
   case first =>
    by_cases hkf : k < f.length
    ·have hfk := jg hkf
     have hab' := fst_at hfk
     obtain ⟨fb, fo, cs, hAf, _, _, ⟨rfl, _⟩, hcs⟩ := (HF.out.ext (hb1.trans (hb2.mono hb1.size))).at_ hfk
     generalize f[k] = nf at *
     have z0 := hcs 0 _ rfl
     simp only [IntR_size, Nat.mul_one, Nat.add_zero] at z0
     have hkf' : (k : Int) < f.length := by omega
     have HAB := jh hab'
     clear hab' hcs hfk
     subst hAf
     go_wp2_with fail
     go_meet
     exact ⟨by rw [HAB.out.1], by rw [HAB.out.2], rfl⟩
    ·have HAB := jh (fst_end hkf)
     have hkf' : decide (k < f.length) = false := jd hkf
     clear hkf
     simp only [hkf']
     go_wp2_with fail
     go_meet
     exact ⟨by rw [HAB.out.1], by rw [HAB.out.2], rfl⟩
   case rest =>
    obtain ⟨rfl, rfl, rfl⟩ := hcut
    have x2 : wc.cell? ⟨wr.heap.size, 2, none⟩ = some (.slice Ad p.data.length cd) := BP.cell 2
    have HBP := jh (ja BP hO2)
    have HRD := jh hrd2
    have HN := HMK.out k
    have HN1 := HMK.out (k + 1)
    rw [HPD.out.1, makeF_snoc] at HN1
    have HSN := jh (show makeF (b.puts.take k ++ [p]) f st ix 0 = makeF (b.puts.take k) f st ix 0 ++ makeP p (fstF f k) (stepF f k) st ix p.data 0 (makeF (b.puts.take k) f st ix 0).length from by
     rw [makeF_snoc]
     have : (b.puts.take k).length = k := by rw [List.length_take]; omega
     rw [this, Nat.zero_add]; rfl)
    clear HN1 BP hO2 hrd2
    have hzp : wr.heap.size < wc.heap.size := HBP.out.1.lt
    generalize hfs : fstF f k = a at *
    generalize hss : stepF f k = s at *
    generalize hnn : makeF (b.puts.take k) f st ix 0 = l0 at *
    clear hfs hss
    have HYtcmjgghkmdbphaaGreatDoor := jh hnn
    clear hnn HMK
    generalize wr.heap.size = bx at *
    have hdl := HPD.out.2.1
    go_wp2_with fail
    clear x2
    go_loopw [8, 34] (fun out j wr => ∃ i : Nat, i ≤ p.data.length ∧ j = .int .i64 i ∧ EventR.Own wr w1.heap.size 202 (fun _ => True) out (l0 ++ makeP p a s st ix (p.data.take i) 0 l0.length) ∧ Below w1.heap.size w1 wr ∧ Blk wr bx 69 [.string p.stream, .int .i64 p.expect, .slice Ad p.data.length cd] ∧ wc.heap.size ≤ wr.heap.size) (fun _ j _ => p.data.length - (intOf j).toNat)
    case atStart => exact ⟨0, Nat.zero_le _, rfl, by simpa [makeP] using HBP.out.2, hb2, HBP.out.1, Nat.le_refl _⟩
    case round =>
     obtain ⟨i, hik, rfl, hout, hbl2, hBP, hzc⟩ := hrel
     have hz2 := hbl2.size
     by_cases hit : i < p.data.length
     ·have hli := jg hit
      have htk := take_snoc p.data i hit
      generalize p.data[i] = d at hli htk
      obtain ⟨db, dO, cs, rfl, _, _, ⟨rfl, hds⟩, hcs⟩ := (HRD.out.same (w' := wr) (fun g hg _ => (hbl2.block g (by have := hb1.size; omega)).trans (hb2.block g (by have := hb1.size; omega)).symm) hzc).at_ hli
      have c0 := hcs 0 _ rfl; simp only [StrR_size, Nat.add_zero, Nat.mul_one] at c0
      have hit' : (i : Int) < p.data.length := by omega
      have y0 : wr.cell? ⟨bx, 0, none⟩ = some (.string p.stream) := hBP.cell 0
      have hBS := HB1.out.1.below (B := w1.heap.size) hbl2 (by have := HB1.out.2; omega)
      have t0 : wr.cell? ⟨w.heap.size + 1, 0, none⟩ = some (.int .i64 st.wall) := hBS.cell 0
      have t1 : wr.cell? ⟨w.heap.size + 1, 1, none⟩ = some (.int .i64 st.logic) := hBS.cell 1
      have t2 : wr.cell? ⟨w.heap.size + 1, 2, none⟩ = some (.int .i64 st.node) := hBS.cell 2
      obtain ⟨Ao, co, hu, _⟩ := hout.form
      have hlen : (l0 ++ makeP p a s st ix (p.data.take i) 0 l0.length).length = l0.length + i := by rw [List.length_append, makeP_len, List.length_take]; omega
      rw [hlen] at hu
      have hsi : 0 ≤ s * (i : Int) ∧ s * (i : Int) ≤ 20 := by
       have hs01 : s = 0 ∨ s = 1 := by omega
       rcases hs01 with h | h <;> rw [h] <;> omega
      have hw1 : wrap64 (s * (i : Int)) = s * i := wrap_in _ (by omega)
      have hw2 : wrap64 (a + s * (i : Int)) = a + s * i := wrap_in _ (by omega)
      have hw3 : wrap64 (ix + ((l0.length : Int) + (i : Int))) = ix + (l0.length + i) := wrap_in _ (by omega)
      obtain ⟨i0, e1, e2, e3, e4⟩ := info_parts event_info
      have hrx : EventR.rep wr (fun _ => False) [.string p.stream, .int .i64 (a + s * i), .string d, .int .i64 st.wall, .int .i64 st.logic, .int .i64 st.node, .int .i64 (ix + (l0.length + i))] ⟨p.stream, a + s * i, d, st, ix + (l0.length + i)⟩ :=
       event_rep.2 ⟨rfl, hps, show i64 (a + s * i) from ⟨by omega, by omega⟩, hds, HD.out.2.2, show i64 (ix + ((l0.length : Int) + (i : Int))) from ⟨by omega, by omega⟩⟩
      have HTK := jh htk
      have hwz : w1.heap.size ≤ wr.heap.size := hz2
      have HBP2 := jh (ja hbl2 hBP)
      clear htk hcs hli hBP hBS hbl2
      subst hu
      have HOW := jh hout
      go_wp2_with (first
       | (at_builtin; refine wpList_append_new (R := EventR) wr rfl (.tmp 39) (.tmp 54) _ rfl w1.heap.size 202 i0 _ 72 Tryz.underlying64 e1 e2 e3 e4 rfl _ (l0 ++ makeP p a s st ix (p.data.take i) 0 l0.length) (fun _ => True) rfl hout (fun _ _ => trivial) rfl (fun _ => False) _ hrx (fun _ h => h.elim) (by unfold maxLen; omega) (by omega) hwz ?_; intro v1 w6 ho1 hg1 hat1 hn1 hb6)
       | fail)
      go_round
      case rel =>
       refine ⟨i + 1, by omega, by go_num, ?_, HBP2.out.1.trans hb6, HBP2.out.2.only (Only.grown hg1 (F := fun g => (Value.slice Ao (l0.length + i) co).ownBlock = some g) (fun g hg => hg)) (fun h => by obtain ⟨xs, hx, _⟩ := HOW.out; exact own_blk_ne hx HBP2.out.2 (by decide) h), Nat.le_trans hzc hb6.size⟩
       rw [HTK.out, makeP_snoc, ← List.append_assoc]
       have hti : (p.data.take i).length = i := by rw [List.length_take]; omega
       rw [hti, Nat.zero_add, Int.natCast_add]
       exact ho1
      case measure => simp [intOf]; omega
     ·have hin : i = p.data.length := by omega
      subst hin
      rw [List.take_length] at hout
      have hout2 : EventR.Own wr w1.heap.size 202 (fun _ => True) u8 (makeF (b.puts.take (k + 1)) f st ix 0) := by
       rw [HPD.out.1, HSN.out]; exact hout
      have HO2 := jh hout2
      clear hout hout2 hBP
      go_wp2_with fail
      go_round
      case rel => exact ⟨k + 1, by omega, by go_num, HO2.out, hbl2⟩
      case measure => simp [intOf]; omega
  ·have hkn : k = b.puts.length := by omega
   subst hkn
   go_wp2_with fail
   go_ret
   have h1 := HO.out
   rw [List.take_length] at h1
   exact ⟨⟨_, rfl, (h1.plain event_plain).base' hb1.size⟩, hb1.trans (hbl.mono hb1.size)⟩
end Go.Proofs.YtcmjgghkmdbphaaGreatDoor
