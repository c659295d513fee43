/- event.EncodeStream: a stream as bytes. rec.named: the fields that a kind names. rec.writer: numbers, bytes. rec.writer.lists. -/
import Derived.Test.YtcmjgghkmdbphaaGreatDoorT06
import Derived.Laws.ResultCell
set_option maxRecDepth 20000
set_option maxHeartbeats 25600000
namespace Go.Proofs.YtcmjgghkmdbphaaGreatDoor
open Go.RowKit
theorem Bts.some_ {w : World} {base n : Nat} {v : Value} (h : Bts w base v n) (hn : 1 ≤ n) : ∃ b o c, v = .slice (some ⟨b, o, none⟩) n c := by
 obtain ⟨A, c, rfl, _⟩ := h.form
 obtain ⟨l, rfl, hrow⟩ := h.row
 obtain ⟨b, o, cs, rfl, _⟩ := hrow.at_ (jg (show 0 < l.length by omega))
 exact ⟨b, o, c, rfl⟩
def okE (n : Str) (e : Event) : Bool := eventB e && decide (e.stream = n)
def streamB (s : Stream) : Bool := nameB s.name && (s.events.all (okE s.name) && s.keys.all knownB)
theorem toList_ne {a b : Str} (h : a ≠ b) : (a.toList == b.toList) = false := by
 rw [beq_eq_false_iff_ne]; intro e; apply h; rw [ByteArray.toList_eq, ByteArray.toList_eq] at e; obtain ⟨⟨x⟩⟩ := a; obtain ⟨⟨y⟩⟩ := b; simp at e; simp [e]
theorem all_take_snoc {α : Type} {p : α → Bool} {l : List α} {k : Nat} (h : (l.take k).all p = true) {a : α} (ha : l[k]? = some a) (hp : p a = true) : (l.take (k + 1)).all p = true := by
 rw [List.take_add_one, ha, List.all_append, h]; simp [hp]
theorem not_all {α : Type} {p : α → Bool} {l : List α} {k : Nat} {a : α} (ha : l[k]? = some a) (hp : p a = false) : l.all p = false := by
 rw [Bool.eq_false_iff]
 intro h
 rw [List.all_eq_true] at h
 have := h a (List.mem_of_getElem? ha)
 rw [hp] at this; cases this
def lenK (k : Known) : Nat := (vlen k.key.size + k.key.size) + vlen k.first + lenT k.stamp
def lensE (l : List Event) : Nat := (l.map lenE).sum
def lensK (l : List Known) : Nat := (l.map lenK).sum
def lenS0 (s : Stream) : Nat := (vlen s.name.size + s.name.size) + vlen s.events.length
def lenS (s : Stream) : Nat := lenS0 s + lensE s.events + vlen s.keys.length + lensK s.keys
theorem lensE_take {l : List Event} {k : Nat} {e : Event} (h : l[k]? = some e) : lensE (l.take (k + 1)) = lensE (l.take k) + lenE e := by
 unfold lensE; rw [List.take_add_one, h, List.map_append, List.sum_append]; simp
theorem lensK_take {l : List Known} {k : Nat} {e : Known} (h : l[k]? = some e) : lensK (l.take (k + 1)) = lensK (l.take k) + lenK e := by
 unfold lensK; rw [List.take_add_one, h, List.map_append, List.sum_append]; simp
theorem lensE_bd : ∀ l : List Event, l.all eventB = true → lensE l ≤ 1300 * l.length
 | [], _ => by simp [lensE]
 | a :: l, h => by
   rw [List.all_cons, Bool.and_eq_true] at h
   have h1 := lensE_bd l h.2
   have h2 := lenE_bd h.1
   have e : lensE (a :: l) = lenE a + lensE l := by simp [lensE]
   rw [e, List.length_cons]; omega
theorem lenK_bd {k : Known} (h : knownB k = true) : lenK k ≤ 250 := by
 have h1 := knownB_iff.1 h
 have h2 := keyB_short h1.2.1
 have b1 := vlen_bd k.key.size
 have b2 := vlen_bd k.first
 have b3 := lenT_bd k.stamp
 unfold lenK; omega
theorem lensK_bd : ∀ l : List Known, l.all knownB = true → lensK l ≤ 250 * l.length
 | [], _ => by simp [lensK]
 | a :: l, h => by
   rw [List.all_cons, Bool.and_eq_true] at h
   have h1 := lensK_bd l h.2
   have h2 := lenK_bd h.1
   have e : lensK (a :: l) = lenK a + lensK l := by simp [lensK]
   rw [e, List.length_cons]; omega
theorem streamB_parts {s : Stream} (h : streamB s = true) : nameB s.name = true ∧ s.events.all (okE s.name) = true ∧ s.keys.all knownB = true := by
 simpa only [streamB, Bool.and_eq_true] using h
theorem lenS_bd {s : Stream} (h : streamB s = true) : 1 ≤ lenS s ∧ lenS s ≤ 300 + 1300 * s.events.length + 250 * s.keys.length := by
 obtain ⟨h1, h2, h3⟩ := streamB_parts h
 have h4 := nameB_short h1
 have h5 : s.events.all eventB = true := by
  rw [List.all_eq_true] at h2 ⊢
  intro x hx
  have := h2 x hx
  simp only [okE, Bool.and_eq_true] at this
  exact this.1
 have b1 := lensE_bd _ h5
 have b2 := lensK_bd _ h3
 have b3 := vlen_bd s.name.size
 have b4 := vlen_bd s.events.length
 have b5 := vlen_bd s.keys.length
 unfold lenS lenS0; omega
theorem encodeS_ex (s : Stream) (A A' : Option Addr) (c c' : Nat) (P : Nat → Prop) (w : World) (hn : sfit s.name) (hr : EventR.Row w P A s.events) (hr' : KnownR.Row w P A' s.keys) (hl : s.events.length ≤ 40000) (hl' : s.keys.length ≤ 40000) (hT : Tabs w) (_h2 : 2 ≤ w.heap.size) :
 Calls Tryz.prog 137 #[.agg #[.string s.name, .slice A s.events.length c, .slice A' s.keys.length c']] w fun en w' => GotEnc (streamB s) w.heap.size (lenS s) (lenS s) en w' ∧ Below w.heap.size w w' := by
 have HBV := jh (ja (vlen_bd s.name.size) (ja (vlen_bd s.events.length) (vlen_bd s.keys.length)))
 have C := nameF s.name (w.alloc (.cells #[.string s.name, .slice A s.events.length c, .slice A' s.keys.length c'] 199)) hn (hT.below ((jb _ _).al _))
 have HR := jh (hr.mono (Q := fun g => g < w.heap.size) fun g _ h => h)
 have HR' := jh (hr'.mono (Q := fun g => g < w.heap.size) fun g _ h => h)
 clear hr hr'
 have CS := jh (fun s W => encode_ex s W)
 unfold Stamp.val at CS
 have CE := jh (fun e W => encodeE_ex e W)
 unfold Event.val at CE
 have CK := jh (fun k W => known_any k W)
 unfold Known.val at CK
 cases hq : nameB s.name
 ·have HQ := jh hq
  rw [hq] at C
  clear hq
  go_enter Tryz.func137, Tryz.ntmps137
  go_wp2_with fail
  refine C.mono ?_
  clear C
  rintro en w1 ⟨rfl, hb1⟩
  go_wp2_with fail
  go_ret
  exact ⟨by rw [show streamB s = false from by unfold streamB; rw [HQ.out]; rfl]; exact GotEnc.no rfl, ((jb _ _).al _).tr hb1⟩
 ·have HQ := jh hq
  have HNS := jh (nameB_short hq)
  rw [hq] at C
  clear hq
  go_enter Tryz.func137, Tryz.ntmps137
  go_wp2_with fail
  refine C.mono ?_
  clear C
  rintro en w1 ⟨rfl, hb1⟩
  have B1 := (Blk.new w 199 [.string s.name, .slice A s.events.length c, .slice A' s.keys.length c']).ext hb1
  have hw1 : Below w.heap.size w w1 := ((jb _ _).al _).tr hb1
  have hz1 := hb1.size
  simp only [World.size_alloc] at hz1
  have hdr : w1.drew.heap.size = w1.heap.size := rfl
  clear hb1
  have FX := jh (show ∀ W, Below (w.heap.size + 1) w1 W → W.cell? ⟨w.heap.size, 0, none⟩ = some (.string s.name) ∧ W.cell? ⟨w.heap.size, 1, none⟩ = some (.slice A s.events.length c) ∧ W.cell? ⟨w.heap.size, 2, none⟩ = some (.slice A' s.keys.length c') from fun W h => by
   have K : ∀ (i : Nat) (v : Value), w1.cell? ⟨w.heap.size, i, none⟩ = some v → W.cell? ⟨w.heap.size, i, none⟩ = some v := fun i v hv => (Below.cell h (p := ⟨w.heap.size, i, none⟩) (Nat.lt_succ_self _)).trans hv
   exact ⟨K 0 _ (B1.cell 0), K 1 _ (B1.cell 1), K 2 _ (B1.cell 2)⟩)
  obtain ⟨y0, y1, y2⟩ := FX.out w1 (jb _ _)
  have x0 := OnB.cell (B := w.heap.size + 1) (W := w1) (by omega) y0
  have x1 := OnB.cell (B := w.heap.size + 1) (W := w1) (by omega) y1
  clear y0 y1 y2
  go_wp2_with fail
  go_cut [3] from 13 to 21 (fun v wx => ∃ n, Bts wx (w.heap.size + 1) v n ∧ 1 ≤ n ∧ n ≤ 200 ∧ Below (w.heap.size + 1) w1 wx ∧ Hid (n = lenS0 s))
  case first =>
   refine wp_region_mix (.fork [0, 1, 3, 4, 5, 6] 2 (.seg [] 7 (.seg [] 8 (.leaf [9]))) 7 (.seg [] 2 (.seg [] 8 (.leaf [9])))) (fun w' => ∃ d : Wd (OnB (w.heap.size + 1) w1), w' = d.w) (by kernel_rfl) (by kernel_rfl) (fun _ _ d _ _ h => by cases d <;> exact h) (ClsW.mk (jb _ _).drew) ?_
   unfold wpMix; simp only [pick, j1, j2, j3, j4]
   (repeat (show wpQuiet _ _ _ _ (_ :: _) _; go_big_quiet_step (fail))); refine qn ?_
   constructor
   ·go_wp2_with fail
    refine (text_ex _ 0 0 s.name _ (Bts.nil_ _ _) (by have := HNS.out; have := HBV.out; omega)).mono ?_
    rintro en w2 ⟨⟨v2, n2, rfl, hv2, hn2, hn2'⟩, hb2'⟩
    have hb2 : Below w1.heap.size w1 w2 := (jb _ w1).drew.tr hb2'
    clear hb2'
    go_wp2_with fail
    (refine segw (D := OnB (w.heap.size + 1) w1) (hb2.mono (by omega)) ?_; unfold wpMix; simp only [pick, j1, j2, j3, j4]; (repeat (show wpQuiet _ _ _ _ (_ :: _) _; go_big_quiet_step (fail))); refine qn ?_; go_wp2_with fail)
    (refine segw (D := OnB (w.heap.size + 1) w1) ((hb2.mono (by omega)).alloc (by have := hb2.size; omega) _) ?_; unfold wpMix; simp only [pick, j1, j2, j3, j4]; (repeat (show wpQuiet _ _ _ _ (_ :: _) _; go_big_quiet_step (fail))); refine qn ?_; go_wp2_with fail)
    have hne : some w2.heap.size ≠ v2.ownBlock := fun h => by have := (hv2.lt _ h.symm).2; omega
    have hnums := (nums1_ex v2 n2 (w.heap.size + 1) w2.heap.size 303 (s.events.length : Int) _ ((hv2.base_ hz1).ext ((jb _ _).al _)) (Blk.new w2 _ _) ⟨by omega, by simp only [limV]; omega⟩ (by have := HNS.out; have := HBV.out; omega) (by have := hb2.size; simp; omega) hne)
    refine hnums.mono ?_
    clear hnums
    rintro en w3 ⟨⟨v3, n3, rfl, hv3, hn3, hn3', _⟩, ho3⟩
    have hb3 : Below (w.heap.size + 1) w1 w3 := ((hb2.mono hz1).alloc (by have := hb2.size; omega) _).trans (ho3.low (fun g hg => by have := (hv2.lt g hg).1; exact Nat.le_trans hz1 this) (by have := hb2.size; simp; omega))
    go_wp2_with fail
    (refine segw (D := OnB (w.heap.size + 1) w1) (hb3) ?_; unfold wpMix; simp only [pick, j1, j2, j3, j4]; (repeat (show wpQuiet _ _ _ _ (_ :: _) _; go_big_quiet_step (fail))); refine qn ?_; go_wp2_with fail)
    go_meet
    have := HBV.out
    exact ⟨n3, hv3, by omega, by have := HNS.out; omega, hb3, jh (by unfold lenS0; omega)⟩
   ·go_wp2_with fail
    have hsz : ((w1.alloc (.cells #[.int .u64 (s.events.length : Int)] 303)).drew).heap.size = w1.heap.size + 1 := by show (w1.alloc _).heap.size = _; simp
    (refine segw (D := OnB (w.heap.size + 1) w1) (((jb _ w1).alloc (by omega) _).drew) ?_; unfold wpMix; simp only [pick, j1, j2, j3, j4]; (repeat (show wpQuiet _ _ _ _ (_ :: _) _; go_big_quiet_step (fail))); refine qn ?_; go_wp2_with fail)
    refine (text_ex _ 0 0 s.name _ (Bts.nil_ _ _) (by have := HNS.out; have := HBV.out; omega)).mono ?_
    rintro en w2 ⟨⟨v2, n2, rfl, hv2, hn2, hn2'⟩, hb2'⟩
    have hb2 := (((jb (w.heap.size + 1) w1).alloc (by omega) (.cells #[.int .u64 (s.events.length : Int)] 303)).drew).trans (hb2'.mono (by omega))
    have hg2 := ((Blk.new w1 303 [.int .u64 (s.events.length : Int)]).ext (jb _ _).drew).ext (w' := w2) hb2'
    have hz2 := hb2'.size
    have hlt2 := hv2.lt
    clear hb2'
    go_wp2_with fail
    (refine segw (D := OnB (w.heap.size + 1) w1) (hb2) ?_; unfold wpMix; simp only [pick, j1, j2, j3, j4]; (repeat (show wpQuiet _ _ _ _ (_ :: _) _; go_big_quiet_step (fail))); refine qn ?_; go_wp2_with fail)
    have hne : some w1.heap.size ≠ v2.ownBlock := fun h => by have := (hlt2 _ h.symm).1; omega
    have hnums := (nums1_ex v2 n2 (w.heap.size + 1) w1.heap.size 303 (s.events.length : Int) w2 (hv2.base_ (by omega)) hg2 ⟨by omega, by simp only [limV]; omega⟩ (by have := HNS.out; have := HBV.out; omega) (by omega) hne)
    refine hnums.mono ?_
    clear hnums
    rintro en w3 ⟨⟨v3, n3, rfl, hv3, hn3, hn3', _⟩, ho3⟩
    have hb3 : Below (w.heap.size + 1) w1 w3 := hb2.trans (ho3.low (fun g hg => by have := (hlt2 g hg).1; omega) (by omega))
    go_wp2_with fail
    (refine segw (D := OnB (w.heap.size + 1) w1) (hb3) ?_; unfold wpMix; simp only [pick, j1, j2, j3, j4]; (repeat (show wpQuiet _ _ _ _ (_ :: _) _; go_big_quiet_step (fail))); refine qn ?_; go_wp2_with fail)
    go_meet
    have := HBV.out
    exact ⟨n3, hv3, by omega, by have := HNS.out; omega, hb3, jh (by unfold lenS0; omega)⟩
  case rest =>
   obtain ⟨n0, hv0, hn0, hn0', hbc, HN0⟩ := hcut
   clear x0 x1
   obtain ⟨y0, y1, y2⟩ := FX.out wc hbc
   have hzc := hbc.size
   go_wp2_with fail
   clear y0 y1 y2
   go_loopw [3, 5, 6, 25] (fun out _ _ i wr => ∃ (k n : Nat), k ≤ s.events.length ∧ i = .int .i64 k ∧ Bts wr (w.heap.size + 1) out n ∧ 1 ≤ n ∧ n ≤ 200 + 1300 * k ∧ (s.events.take k).all (okE s.name) = true ∧ Below (w.heap.size + 1) w1 wr ∧ Hid (n = lenS0 s + lensE (s.events.take k))) (fun _ _ _ i _ => s.events.length - (intOf i).toNat)
   case atStart => exact ⟨0, n0, Nat.zero_le _, rfl, hv0, by omega, by omega, rfl, hbc, jh (by have := HN0.out; simpa [lensE] using this)⟩
   case round =>
    obtain ⟨k, n, hkl, rfl, hv, hn1, hn2, hall, hbl, HN⟩ := hrel
    have HALL := jh hall
    clear hall
    have hzr := hbl.size
    by_cases hlt : k < s.events.length
    ·have hlk := jg hlt
     obtain ⟨bb, o, cs, rfl, hP, hbw, hrep, hcs⟩ := (HR.out.ext (hw1.trans (hbl.mono (by omega)))).at_ hlk
     generalize s.events[k] = e at hlk hrep
     obtain ⟨rfl, hfit⟩ := event_rep.1 hrep
     unfold Event.cells at hcs
     have c0 := hcs 0 _ rfl; have c1 := hcs 1 _ rfl; have c2 := hcs 2 _ rfl; have c3 := hcs 3 _ rfl; have c4 := hcs 4 _ rfl; have c5 := hcs 5 _ rfl; have c6 := hcs 6 _ rfl; simp only [EventR_size, Nat.add_zero] at c0 c1 c2 c3 c4 c5 c6
     have HLK := jh hlk; have HF := jh hfit; clear hlk hfit hcs hrep
     have hlt' : (k : Int) < s.events.length := by omega
     go_wp2_with fail
     have hbx := Blk.new wr 202 e.cells
     have hax := (jb wr.heap.size wr).al (.cells e.cells.toArray 202)
     have hCE := CE.out e _ HF.out ((hT.below (hw1.trans (hbl.mono (by omega)))).below hax) (by have := hax.size; omega)
     refine hCE.mono ?_
     clear hCE c0 c1 c2 c3 c4 c5 c6
     rintro en w2 ⟨hres, hb2⟩
     have hzx : (wr.alloc (.cells e.cells.toArray 202)).heap.size = wr.heap.size + 1 := by simp
     have hb12 := hax.trans (hb2.mono (by omega))
     have hbl2 := hbl.trans (hb12.mono (by omega))
     have hbx2 := hbx.ext hb2
     have z0 : w2.cell? ⟨wr.heap.size, 0, none⟩ = some (.string e.stream) := hbx2.cell 0
     obtain ⟨y0, y1, y2⟩ := FX.out w2 hbl2
     have hv2 := hv.ext hb12
     have hz2 := hb2.size
     have HWK : Hid (wrap64 ((k : Int) + 1) = ((k + 1 : Nat) : Int)) := jh (by rw [wrap_in _ (by omega)]; rfl)
     by_cases he : eventB e = true
     ·rw [he] at hres
      obtain ⟨ve, ne, rfl, hve, hnx1, hnx2⟩ := hres.out1
      have hnb := lenE_bd he
      have HNE := jh (show ne = lenE e by omega)
      have hne1 : 1 ≤ ne := by omega
      have hne2 : ne ≤ 1300 := by omega
      clear hnx1 hnx2 hnb
      have HVE := jh hve
      obtain ⟨be, oe, ce, rfl⟩ := hve.some_ hne1
      clear hve hbx hbx2
      have hq1 := fun (w : World) => Lib.run_eql_slice_nil (P := Tryz.prog) w 215 5 (some ⟨be, oe, none⟩) ne ce 0 0 Tryz.underlying215
      by_cases hs : e.stream = s.name
      ·have HS := jh (ja he hs)
       have hs' : (e.stream.toList == s.name.toList) = true := by rw [hs]; exact beq_self_eq_true _
       clear he hs hres
       have hlt2 := hv.lt
       go_wp2_with (at_builtin; refine wpList_append_bts rfl (.tmp 40) (.tmp 41) rfl (w.heap.size + 1) (wr.heap.size + 1) _ n rfl hv2 _ ne rfl (HVE.out.base_ (by omega)) (by omega) (fun g hg h => by have := (hlt2 g h.symm).2; omega) (by omega) (by omega) ?_; intro v3 w3 hv3 hb3 _ _)
       go_round
       case rel => exact ⟨k + 1, n + ne, by omega, by first | rfl | rw [HWK.out], hv3, by omega, by omega, all_take_snoc HALL.out HLK.out (by unfold okE; rw [HS.out.1, decide_eq_true HS.out.2]; rfl), hbl2.trans hb3, jh (by have q1 := HN.out; have q2 := HNE.out; have q3 := lensE_take HLK.out; omega)⟩
       case measure => first | (simp [intOf]; omega) | (rw [HWK.out]; simp [intOf]; omega)
      ·have HS := jh hs
       have hs' : (e.stream.toList == s.name.toList) = false := toList_ne hs
       clear hs hres
       go_wp2_with fail
       go_ret
       refine ⟨?_, hw1.trans (hbl2.mono (by omega))⟩
       rw [show streamB s = false from by
        unfold streamB
        rw [not_all HLK.out (by unfold okE; rw [jd HS.out, Bool.and_false]), Bool.false_and, Bool.and_false]]
       exact GotEnc.no rfl
     ·have he' : eventB e = false := by simpa using he
      rw [he'] at hres
      obtain rfl := hres.out0
      have HE := jh he'
      clear he he' hres hbx hbx2
      have hq1 := fun (w : World) => Lib.run_eql_slice_nil (P := Tryz.prog) w 215 5 none 0 0 0 0 Tryz.underlying215
      go_wp2_with fail
      go_ret
      refine ⟨?_, hw1.trans (hbl2.mono (by omega))⟩
      rw [show streamB s = false from by
       unfold streamB
       rw [not_all HLK.out (by unfold okE; rw [HE.out, Bool.false_and]), Bool.false_and, Bool.and_false]]
      exact GotEnc.no rfl
    ·have hkn : k = s.events.length := by omega
     subst hkn
     have HN1 : Hid (n = lenS0 s + lensE s.events) := jh (by have q := HN.out; rwa [List.take_length] at q)
     obtain ⟨y0, y1, y2⟩ := FX.out wr hbl
     have hz2 : (wr.alloc (.cells #[.int .u64 (s.keys.length : Int)] 303)).heap.size = wr.heap.size + 1 := by simp
     go_wp2_with fail
     have hne : some wr.heap.size ≠ u3.ownBlock := fun h => by have := (hv.lt _ h.symm).2; omega
     have hnums := (nums1_ex u3 n (w.heap.size + 1) wr.heap.size 303 (s.keys.length : Int) _ (hv.ext ((jb _ _).al _)) (Blk.new wr _ _) ⟨by omega, by simp only [limV]; omega⟩ (by omega) (by omega) hne)
     refine hnums.mono ?_
     clear hnums y0 y1 y2
     rintro en w3 ⟨⟨v3, n3, rfl, hv3, hnx3, hnx3', _⟩, ho3⟩
     have hvk := HBV.out.2.2
     have HN3 := jh (show n3 = n + vlen (s.keys.length : Int) by omega)
     have hn3 : n + 1 ≤ n3 := by omega
     have hn3' : n3 ≤ n + 10 := by omega
     clear hnx3 hnx3' hvk
     have hb3 : Below (w.heap.size + 1) w1 w3 := (hbl.alloc (by omega) _).trans (ho3.low (fun g hg => (hv.lt g hg).1) (by omega))
     obtain ⟨y0, y1, y2⟩ := FX.out w3 hb3
     clear hv ho3
     go_wp2_with fail
     clear y0 y1 y2
     go_loopw [3, 8, 54] (fun out _ i wr => ∃ (k m : Nat), k ≤ s.keys.length ∧ i = .int .i64 k ∧ Bts wr (w.heap.size + 1) out m ∧ 1 ≤ m ∧ m ≤ n3 + 250 * k ∧ (s.keys.take k).all knownB = true ∧ Below (w.heap.size + 1) w1 wr ∧ Hid (m = n3 + lensK (s.keys.take k))) (fun _ _ i _ => s.keys.length - (intOf i).toNat)
     case atStart => exact ⟨0, n3, Nat.zero_le _, rfl, hv3, by omega, by omega, rfl, hb3, jh (by simp [lensK])⟩
     case round =>
      obtain ⟨k, m, hkl', rfl, hv, hm1, hm2, hall, hbl', HM⟩ := hrel
      have HALL' := jh hall
      clear hall
      have hzr := hbl'.size
      by_cases hlt : k < s.keys.length
      ·have hlk := jg hlt
       obtain ⟨bb, o, cs, rfl, hP, hbw, hrep, hcs⟩ := (HR'.out.ext (hw1.trans (hbl'.mono (by omega)))).at_ hlk
       generalize s.keys[k] = e at hlk hrep
       obtain ⟨rfl, hfit⟩ := known_rep.1 hrep
       unfold Known.cells at hcs
       have c0 := hcs 0 _ rfl; have c1 := hcs 1 _ rfl; have c2 := hcs 2 _ rfl; have c3 := hcs 3 _ rfl; have c4 := hcs 4 _ rfl; simp only [KnownR_size, Nat.add_zero] at c0 c1 c2 c3 c4
       have HLK := jh hlk; have HF := jh hfit; clear hlk hfit hcs hrep
       have hlt' : (k : Int) < s.keys.length := by omega
       go_wp2_with fail
       have hbx := Blk.new wr 49 e.cells
       have hax := (jb wr.heap.size wr).al (.cells e.cells.toArray 49)
       have hCK := CK.out e _ HF.out.1 ((hT.below (hw1.trans (hbl'.mono (by omega)))).below hax)
       refine hCK.mono ?_
       clear hCK c0 c1 c2 c3 c4
       rintro en w2 ⟨rfl, hb2⟩
       have hzx : (wr.alloc (.cells e.cells.toArray 49)).heap.size = wr.heap.size + 1 := by simp
       have hb12 := hax.trans (hb2.mono (by omega))
       have hbl2 := hbl'.trans (hb12.mono (by omega))
       have hbx2 := hbx.ext hb2
       have hv2 := hv.ext hb12
       have hz2 := hb2.size
       have HWK : Hid (wrap64 ((k : Int) + 1) = ((k + 1 : Nat) : Int)) := jh (by rw [wrap_in _ (by omega)]; rfl)
       cases he : knownB e
       ·have HE := jh he
        clear he hbx hbx2
        go_wp2_with fail
        go_ret
        refine ⟨?_, hw1.trans (hbl2.mono (by omega))⟩
        rw [show streamB s = false from by
         unfold streamB
         rw [not_all HLK.out HE.out, Bool.and_false, Bool.and_false]]
        exact GotEnc.no rfl
       ·have HE := jh he
        have HKI := jh (knownB_iff.1 he)
        have hks := keyB_short HKI.out.2.1
        have hk1 := HKI.out.2.2.1
        have hk2 := HKI.out.2.2.2.1
        have hkv1 := vlen_bd e.key.size
        have hkv2 := vlen_bd e.first
        have hkv3 := lenT_bd e.stamp
        have HLT := jh (ja (lensK_take HLK.out) (show lenK e = (vlen e.key.size + e.key.size) + vlen e.first + lenT e.stamp from rfl))
        clear he
        have hlt2 := hv.lt
        generalize wr.heap.size = bx at *
        have x0 := OnB.cell (B := bx + 1) (W := w2) (by omega) (hbx2.cell 0 : w2.cell? ⟨bx, 0, none⟩ = some (.string e.key))
        have x1 := OnB.cell (B := bx + 1) (W := w2) (by omega) (hbx2.cell 1 : w2.cell? ⟨bx, 1, none⟩ = some (.int .i64 e.first))
        have x2 := OnB.cell (B := bx + 1) (W := w2) (by omega) (hbx2.cell 2 : w2.cell? ⟨bx, 2, none⟩ = some (.int .i64 e.stamp.wall))
        have x3 := OnB.cell (B := bx + 1) (W := w2) (by omega) (hbx2.cell 3 : w2.cell? ⟨bx, 3, none⟩ = some (.int .i64 e.stamp.logic))
        have x4 := OnB.cell (B := bx + 1) (W := w2) (by omega) (hbx2.cell 4 : w2.cell? ⟨bx, 4, none⟩ = some (.int .i64 e.stamp.node))
        have hdw : w2.drew.heap.size = w2.heap.size := rfl
        clear hbx hbx2
        go_wp2_with fail
        refine wp_region_mix (.fork [0, 1, 2, 4, 5, 6, 9, 10] 3 (.seg [] 7 (.seg [] 8 (.seg [] 11 (.seg [] 12 (.leaf [13]))))) 7 (.seg [] 3 (.seg [] 8 (.seg [] 11 (.seg [] 12 (.leaf [13])))))) (fun w' => ∃ d : Wd (OnB (bx + 1) w2), w' = d.w) (by kernel_rfl) (by kernel_rfl) (fun _ _ d _ _ h => by cases d <;> exact h) (ClsW.mk (jb _ _).drew) ?_
        unfold wpMix; simp only [pick, j1, j2, j3, j4]
        (repeat (show wpQuiet _ _ _ _ (_ :: _) _; go_big_quiet_step (fail))); refine qn ?_
        constructor
        ·go_wp2_with fail
         refine (text_ex _ m (w.heap.size + 1) e.key _ (hv2.ext (jb _ _).drew) (by omega)).mono ?_
         rintro en w3' ⟨⟨v3', n3', rfl, hv3', hm3, hm3'⟩, hb3'⟩
         have hb3 : Below w2.heap.size w2 w3' := (jb _ w2).drew.tr hb3'
         have hz3 := hb3.size
         have hlt3 := hv3'.lt
         clear hb3'
         go_wp2_with fail
         (refine segw (D := OnB (bx + 1) w2) (hb3.mono (by omega)) ?_; unfold wpMix; simp only [pick, j1, j2, j3, j4]; (repeat (show wpQuiet _ _ _ _ (_ :: _) _; go_big_quiet_step (fail))); refine qn ?_; go_wp2_with fail)
         have hsz : (w3'.alloc (.cells #[.int .u64 e.first] 303)).heap.size = w3'.heap.size + 1 := by simp
         have HB3 := (hb3.mono (B' := bx + 1) (by omega)).alloc (by omega) (.cells #[.int .u64 e.first] 303)
         (refine segw (D := OnB (bx + 1) w2) (HB3) ?_; unfold wpMix; simp only [pick, j1, j2, j3, j4]; (repeat (show wpQuiet _ _ _ _ (_ :: _) _; go_big_quiet_step (fail))); refine qn ?_; go_wp2_with fail)
         have hne : some w3'.heap.size ≠ v3'.ownBlock := fun h => by have := (hlt3 _ h.symm).2; omega
         have hnums := (nums1_ex v3' n3' (bx + 1) w3'.heap.size 303 e.first _ ((hv3'.base_ (by omega)).ext ((jb _ _).al _)) (Blk.new w3' _ _) ⟨by omega, by simp only [limV]; omega⟩ (by omega) (by omega) hne)
         refine hnums.mono ?_
         clear hnums
         rintro en w4 ⟨⟨v4, n4, rfl, hv4, hn4, hn4', _⟩, ho4⟩
         have hb4 : Below (bx + 1) w2 w4 := HB3.trans (ho4.low (fun g hg => by have := (hlt3 g hg).1; omega) (by omega))
         have hz4 := hb4.size
         have hlt4 := hv4.lt
         go_wp2_with fail
         (refine segw (D := OnB (bx + 1) w2) (hb4) ?_; unfold wpMix; simp only [pick, j1, j2, j3, j4]; (repeat (show wpQuiet _ _ _ _ (_ :: _) _; go_big_quiet_step (fail))); refine qn ?_; go_wp2_with fail)
         refine (CS.out e.stamp _).mono ?_
         rintro en w5 ⟨hr, hb5'⟩
         rw [HKI.out.2.2.2.2] at hr
         obtain ⟨v5, n5, rfl, hv5, hn5, hn5'⟩ := hr.out1
         have hb5 : Below w4.heap.size w4 w5 := hb5'
         have hb25 := hb4.trans (hb5.mono (B' := bx + 1) (by omega))
         have hz5 := hb5.size
         have hv4' := hv4.ext hb5
         clear hr hb5'
         go_wp2_with fail
         (refine segw (D := OnB (bx + 1) w2) (hb25) ?_; unfold wpMix; simp only [pick, j1, j2, j3, j4]; (repeat (show wpQuiet _ _ _ _ (_ :: _) _; go_big_quiet_step (fail))); refine qn ?_)
         refine wpList_append_bts rfl (.tmp 69) (.tmp 72) rfl (bx + 1) w4.heap.size _ n4 rfl hv4' v5 n5 rfl hv5 (by omega) (fun g hg h => by have := (hlt4 g h.symm).2; omega) (by omega) (by omega) ?_
         intro v6 w6 hv6 hb6 _ _
         go_simp
         (refine segw (D := OnB (bx + 1) w2) (hb25.trans hb6) ?_; unfold wpMix; simp only [pick, j1, j2, j3, j4]; (repeat (show wpQuiet _ _ _ _ (_ :: _) _; go_big_quiet_step (fail))); refine qn ?_; go_wp2_with fail)
         go_round
         case rel => exact ⟨k + 1, n4 + n5, by omega, by first | rfl | rw [HWK.out], hv6.base_ (by omega), by omega, by omega, all_take_snoc HALL'.out HLK.out HE.out, hbl2.trans ((hb25.trans hb6).mono (by omega)), jh (by have q1 := HM.out; have q2 := HLT.out; omega)⟩
         case measure => first | (simp [intOf]; omega) | (rw [HWK.out]; simp [intOf]; omega)
        ·go_wp2_with fail
         have hsz : ((w2.alloc (.cells #[.int .u64 e.first] 303)).drew).heap.size = w2.heap.size + 1 := by show (w2.alloc _).heap.size = _; simp
         have hb0 := ((jb (bx + 1) w2).alloc (by omega) (.cells #[.int .u64 e.first] 303)).drew
         (refine segw (D := OnB (bx + 1) w2) (hb0) ?_; unfold wpMix; simp only [pick, j1, j2, j3, j4]; (repeat (show wpQuiet _ _ _ _ (_ :: _) _; go_big_quiet_step (fail))); refine qn ?_; go_wp2_with fail)
         refine (text_ex _ m (w.heap.size + 1) e.key _ (hv2.ext (((jb _ _).al _).drew)) (by omega)).mono ?_
         rintro en w3' ⟨⟨v3', n3', rfl, hv3', hm3, hm3'⟩, hb3'⟩
         have HB3 := hb0.trans (hb3'.mono (B' := bx + 1) (by omega))
         have hz3 := hb3'.size
         have hlt3 := hv3'.lt
         have hg3 := ((Blk.new w2 303 [.int .u64 e.first]).ext (jb _ _).drew).ext (w' := w3') hb3'
         clear hb3'
         go_wp2_with fail
         (refine segw (D := OnB (bx + 1) w2) (HB3) ?_; unfold wpMix; simp only [pick, j1, j2, j3, j4]; (repeat (show wpQuiet _ _ _ _ (_ :: _) _; go_big_quiet_step (fail))); refine qn ?_; go_wp2_with fail)
         have hne : some w2.heap.size ≠ v3'.ownBlock := fun h => by have := (hlt3 _ h.symm).1; omega
         have hnums := (nums1_ex v3' n3' (bx + 1) w2.heap.size 303 e.first w3' (hv3'.base_ (by omega)) hg3 ⟨by omega, by simp only [limV]; omega⟩ (by omega) (by omega) hne)
         refine hnums.mono ?_
         clear hnums
         rintro en w4 ⟨⟨v4, n4, rfl, hv4, hn4, hn4', _⟩, ho4⟩
         have hb4 : Below (bx + 1) w2 w4 := HB3.trans (ho4.low (fun g hg => by have := (hlt3 g hg).1; omega) (by omega))
         have hz4 := hb4.size
         have hlt4 := hv4.lt
         go_wp2_with fail
         (refine segw (D := OnB (bx + 1) w2) (hb4) ?_; unfold wpMix; simp only [pick, j1, j2, j3, j4]; (repeat (show wpQuiet _ _ _ _ (_ :: _) _; go_big_quiet_step (fail))); refine qn ?_; go_wp2_with fail)
         refine (CS.out e.stamp _).mono ?_
         rintro en w5 ⟨hr, hb5'⟩
         rw [HKI.out.2.2.2.2] at hr
         obtain ⟨v5, n5, rfl, hv5, hn5, hn5'⟩ := hr.out1
         have hb5 : Below w4.heap.size w4 w5 := hb5'
         have hb25 := hb4.trans (hb5.mono (B' := bx + 1) (by omega))
         have hz5 := hb5.size
         have hv4' := hv4.ext hb5
         clear hr hb5'
         go_wp2_with fail
         (refine segw (D := OnB (bx + 1) w2) (hb25) ?_; unfold wpMix; simp only [pick, j1, j2, j3, j4]; (repeat (show wpQuiet _ _ _ _ (_ :: _) _; go_big_quiet_step (fail))); refine qn ?_)
         refine wpList_append_bts rfl (.tmp 69) (.tmp 72) rfl (bx + 1) w4.heap.size _ n4 rfl hv4' v5 n5 rfl hv5 (by omega) (fun g hg h => by have := (hlt4 g h.symm).2; omega) (by omega) (by omega) ?_
         intro v6 w6 hv6 hb6 _ _
         go_simp
         (refine segw (D := OnB (bx + 1) w2) (hb25.trans hb6) ?_; unfold wpMix; simp only [pick, j1, j2, j3, j4]; (repeat (show wpQuiet _ _ _ _ (_ :: _) _; go_big_quiet_step (fail))); refine qn ?_; go_wp2_with fail)
         go_round
         case rel => exact ⟨k + 1, n4 + n5, by omega, by first | rfl | rw [HWK.out], hv6.base_ (by omega), by omega, by omega, all_take_snoc HALL'.out HLK.out HE.out, hbl2.trans ((hb25.trans hb6).mono (by omega)), jh (by have q1 := HM.out; have q2 := HLT.out; omega)⟩
         case measure => first | (simp [intOf]; omega) | (rw [HWK.out]; simp [intOf]; omega)
      ·have hkn : k = s.keys.length := by omega
       subst hkn
       go_wp2_with fail
       go_ret
       refine ⟨?_, hw1.trans (hbl'.mono (by omega))⟩
       have h1 := HALL.out
       have h2 := HALL'.out
       rw [List.take_length] at h1 h2
       rw [show streamB s = true from by unfold streamB; rw [HQ.out, h1, h2]; rfl]
       have q1 := HM.out
       rw [List.take_length] at q1
       have q2 := HN3.out
       have q3 := HN1.out
       have q : lenS s = lenS0 s + lensE s.events + vlen s.keys.length + lensK s.keys := rfl
       exact GotEnc.yes ⟨_, m, rfl, hv.base_ (by omega), by omega, by omega⟩
theorem encodeS_any (s : Stream) (A A' : Option Addr) (c c' : Nat) (P : Nat → Prop) (w : World) (hn : sfit s.name) (hr : EventR.Row w P A s.events) (hr' : KnownR.Row w P A' s.keys) (hl : s.events.length ≤ 40000) (hl' : s.keys.length ≤ 40000) (hT : Tabs w) (h2 : 2 ≤ w.heap.size) :
 Calls Tryz.prog 137 #[.agg #[.string s.name, .slice A s.events.length c, .slice A' s.keys.length c']] w fun en w' => GotEnc (streamB s) w.heap.size 1 (300 + 1300 * s.events.length + 250 * s.keys.length) en w' ∧ Below w.heap.size w w' :=
 (encodeS_ex s A A' c c' P w hn hr hr' hl hl' hT h2).mono fun _ _ h => ⟨h.1.wide (fun q => (lenS_bd q).1) (fun q => (lenS_bd q).2), h.2⟩
end Go.Proofs.YtcmjgghkmdbphaaGreatDoor
namespace Go.Proofs.YtcmjgghkmdbphaaGreatDoor
open Go.RowKit
theorem results_blk_tmp {P : Program} {fn : Func} {p u : Tmp} {ty : TypeId} (h : fn.results = #[.cell p ty, .tmp u]) (tmps : Array Value) {w : World} {g : Nat} {t : TypeId} {cs : List Value} {d : TypeDesc}
 (hg : Blk w g t cs) (hp : tmps.getD p undef = .pointer (some ⟨g, 0, none⟩))
 (hu : P.underlying ty = some d) (hd : (match d with | .struct _ | .array _ _ => true | _ => false) = true) (hi : (P.info? ty).map (·.size) = some cs.length) :
 (results fn tmps).run P w = .ok (.tuple #[.agg cs.toArray, tmps.getD u undef]) w := by
 rw [results_cell_tmp h]
 simp only [hp, asAddr, Sem.run_pure, Result.andThen]
 rw [run_loadVar_row w g t ty cs.toArray (0, 0) d hg hu hd (by simpa using hi)]
structure Fields where
 fN : Bool := false
 fTo : Bool := false
 fYes : Bool := false
 fStamp : Bool := false
 fTx : Bool := false
 fNodes : Bool := false
 fBatch : Bool := false
 fSpan : Bool := false
 fStreams : Bool := false
def Fields.cells (f : Fields) : List Value := [.bool f.fN, .bool f.fTo, .bool f.fYes, .bool f.fStamp, .bool f.fTx, .bool f.fNodes, .bool f.fBatch, .bool f.fSpan, .bool f.fStreams]
def fieldsF (k : Int) : Fields :=
 if k = 1 ∨ k = 2 ∨ k = 8 then { fN := true }
 else if k = 3 then { fBatch := true, fStamp := true }
 else if k = 4 then { fTx := true, fBatch := true, fStamp := true }
 else if k = 5 then { fTx := true, fYes := true, fStamp := true }
 else if k = 6 then { fTx := true, fYes := true, fStamp := true, fNodes := true }
 else if k = 7 then { fTx := true }
 else if k = 9 then { fSpan := true, fTo := true }
 else if k = 10 then { fSpan := true, fStamp := true, fStreams := true }
 else if k = 11 then { fSpan := true }
 else {}
def namedK (k : Int) : Bool := decide (1 ≤ k) && decide (k ≤ 11)
theorem recNamed_any (k : Int) (w : World) : Calls Tryz.prog 251 #[.int .i64 k] w fun e w' => e = .returned (.tuple #[.agg (fieldsF k).cells.toArray, .bool (namedK k)]) ∧ Below w.heap.size w w' := by
 by_cases h : namedK k = true
 ·have h1 : 1 ≤ k ∧ k ≤ 11 := by simpa [namedK] using h
  have hk : k = 1 ∨ k = 2 ∨ k = 3 ∨ k = 4 ∨ k = 5 ∨ k = 6 ∨ k = 7 ∨ k = 8 ∨ k = 9 ∨ k = 10 ∨ k = 11 := by omega
  clear h h1
  rcases hk with rfl | rfl | rfl | rfl | rfl | rfl | rfl | rfl | rfl | rfl | rfl
  all_goals
   go_enter Tryz.func251, Tryz.ntmps251
   go_wp2
   (try simp only [Exit.inBlock, Exit.then])
   exact bodyPost_ret (results_blk_tmp rfl _ (Blk.new w 320 [_, _, _, _, _, _, _, _, _]) rfl Tryz.underlying320 rfl (by kernel_rfl)) rfl ⟨rfl, by repeat (with_reducible first | assumption | exact jb _ _ | refine Below.al ?_ _ | refine Below.drew ?_ | apply Below.st1)⟩
 ·have h' : ¬ (1 ≤ k ∧ k ≤ 11) := fun hh => h (by simp [namedK, hh])
  have hf : fieldsF k = {} := by
   unfold fieldsF
   repeat rw [if_neg (by omega)]
  have hn : namedK k = false := by simpa using h
  have HF := jh hf
  have HN := jh hn
  have e1 : (k == 1) = false := by rw [beq_eq_false_iff_ne]; omega
  have e2 : (k == 2) = false := by rw [beq_eq_false_iff_ne]; omega
  have e3 : (k == 3) = false := by rw [beq_eq_false_iff_ne]; omega
  have e4 : (k == 4) = false := by rw [beq_eq_false_iff_ne]; omega
  have e5 : (k == 5) = false := by rw [beq_eq_false_iff_ne]; omega
  have e6 : (k == 6) = false := by rw [beq_eq_false_iff_ne]; omega
  have e7 : (k == 7) = false := by rw [beq_eq_false_iff_ne]; omega
  have e8 : (k == 8) = false := by rw [beq_eq_false_iff_ne]; omega
  have e9 : (k == 9) = false := by rw [beq_eq_false_iff_ne]; omega
  have e10 : (k == 10) = false := by rw [beq_eq_false_iff_ne]; omega
  have e11 : (k == 11) = false := by rw [beq_eq_false_iff_ne]; omega
  clear h h' hf hn
  go_enter Tryz.func251, Tryz.ntmps251
  go_wp2
  (try simp only [Exit.inBlock, Exit.then])
  rw [HF.out, HN.out]
  exact bodyPost_ret (results_blk_tmp rfl _ (Blk.new w 320 [_, _, _, _, _, _, _, _, _]) rfl Tryz.underlying320 rfl (by kernel_rfl)) rfl ⟨rfl, by repeat (with_reducible first | assumption | exact jb _ _ | refine Below.al ?_ _ | refine Below.drew ?_ | apply Below.st1)⟩
end Go.Proofs.YtcmjgghkmdbphaaGreatDoor
namespace Go.Proofs.YtcmjgghkmdbphaaGreatDoor
open Go.RowKit
def ByteF (g : Nat) (w : World) (k : Nat) : Prop := k = g ∨ ∃ cs fr, w.heap[k]? = some (.cells cs 5 fr)
def Turn (g : Nat) (w w' : World) : Prop := Only (ByteF g w) w w'
section
variable {g : Nat} {w w' w'' : World}
theorem Turn.refl : Turn g w w := Only.refl _ _
theorem Turn.trans (h : Turn g w w') (k : Turn g w' w'') : Turn g w w'' := Only.trans h k fun b hb hf => by
 rcases hf with e | ⟨cs, fr, hh⟩
 ·exact .inl e
 ·by_cases hF : ByteF g w b
  ·exact hF
  ·exact .inr ⟨cs, fr, (h.block b hb hF).symm.trans hh⟩
theorem Turn.of_below (h : Below w.heap.size w w') : Turn g w w' := jo h
theorem Turn.set_ (o : Nat) (u : Value) : Turn g w (w.setCell ⟨g, o, none⟩ u) := Only.set_ (.inl rfl) u
theorem Turn.grown {v : Value} {base n : Nat} (hv : Bts w base v n) (hg : w.grownBy w' v.ownBlock) : Turn g w w' := Only.grown hg fun k hk => by
 obtain ⟨l, hl, xs, h1, h2⟩ := hv
 rcases h1.2 with ⟨rfl, _⟩ | ⟨g', cap, cur, rfl, _, hh, _⟩
 ·simp [Value.ownBlock] at hk
 ·simp [Value.ownBlock] at hk; subst hk; exact .inr ⟨_, _, hh⟩
theorem Turn.blk {b : Nat} {t : TypeId} {cs : List Value} (h : Turn g w w') (hb : Blk w b t cs) (ht : t ≠ 5) (hg : b ≠ g) : Blk w' b t cs := (h.block b hb.lt (fun hf => by
 rcases hf with e | ⟨cs', fr, hh⟩
 ·exact hg e
 ·unfold Blk at hb; rw [hb] at hh; injection hh with hh; injection hh with _ h2; exact ht h2)).trans hb
end
def Wr (w : World) (base g : Nat) (bad : Bool) (n : Nat) : Prop := ∃ v, Blk w g 326 [v, .bool bad] ∧ Bts w base v n
theorem Wr.turn {w w' : World} {base g n : Nat} {bad : Bool} (h : Wr w base g bad n) (hb : Below w.heap.size w w') : Wr w' base g bad n := by
 obtain ⟨v, h1, h2⟩ := h
 exact ⟨v, h1.ext hb, h2.ext hb⟩
theorem Wr.lt {w : World} {base g n : Nat} {bad : Bool} (h : Wr w base g bad n) : g < w.heap.size := by
 obtain ⟨v, h1, h2⟩ := h
 exact h1.lt
theorem Wr.own_ne {w : World} {base g n : Nat} {v : Value} {t : TypeId} {cs : List Value} (h1 : Blk w g t cs) (h2 : Bts w base v n) (ht : t ≠ 5) : v.ownBlock ≠ some g := by
 obtain ⟨l, hl, xs, ho, _⟩ := h2
 exact own_blk_ne ho h1 (fun e => ht e.symm)
theorem Bts.setCell {w : World} {base n g o : Nat} {v : Value} (h : Bts w base v n) (hg : v.ownBlock ≠ some g) (u : Value) : Bts (w.setCell ⟨g, o, none⟩ u) base v n := by
 obtain ⟨xs, h1, h2⟩ := h.raw
 refine Bts.of_raw (xs := xs) ⟨h1.1, ?_⟩ h2
 rcases h1.2 with hn | ⟨g', cap, cur, hv, hbg, hh, rest⟩
 ·exact .inl hn
 ·exact .inr ⟨g', cap, cur, hv, hbg, (Below.heap_setCell w ⟨g, o, none⟩ u g' (fun e => hg (by rw [hv]; exact congrArg some e))).trans hh, rest⟩
def WrB (g : Nat) (v : Value) (b : Bool) (W : World) : Prop := Blk W g 326 [v, .bool b]
theorem WrB.cell0 {g : Nat} {v : Value} {b : Bool} (d : Wd (WrB g v b)) : d.w.cell? ⟨g, 0, none⟩ = some v := Blk.cell d.ok 0
def WrOut (g base lo hi : Nat) (bad : Bool) (w : World) (e : Ending) (w' : World) : Prop := e = .returned (.tuple #[]) ∧ (∃ n, lo ≤ n ∧ n ≤ hi ∧ Wr w' base g bad n) ∧ Below base w w' ∧ Turn g w w'
def inW (n : Int) : Bool := decide (0 ≤ n) && decide (n ≤ 1125899906842624)
theorem wnums_any (g base n : Nat) (bad : Bool) (A : Option Addr) (c : Nat) (l : List Int) (P : Nat → Prop) (w : World) (hW : Wr w base g bad n) (hr : IntR.Row w P A l) (hl : l.length ≤ 1000000) (hn : n ≤ 70000000) (hg : base ≤ g)
 (hd : ∀ W, Below base w W → Turn g w W → Same P w W) :
 Calls Tryz.prog 296 #[.pointer (some ⟨g, 0, none⟩), .slice A l.length c] w (WrOut g base n (n + 10 * l.length) (bad || !l.all inW) w) := by
 have HR := jh hr; clear hr
 have HD := jh hd; clear hd
 have hgl := hW.lt
 go_enter Tryz.func296, Tryz.ntmps296
 go_wp2
 go_loopw [5, 8] (fun _ i wr => ∃ (k m : Nat) (b : Bool), k ≤ l.length ∧ i = .int .i64 k ∧ n ≤ m ∧ m ≤ n + 10 * k ∧ Wr wr base g b m ∧ b = (bad || !(l.take k).all inW) ∧ (b = true → k = 0) ∧ Below base w wr ∧ Turn g w wr) (fun _ i _ => l.length - (intOf i).toNat)
 case atStart => exact ⟨0, n, bad, Nat.zero_le _, rfl, by omega, by omega, hW, by simp, fun _ => rfl, jb _ _, Turn.refl⟩
 case round =>
  obtain ⟨k, m, b, hkl, rfl, hm1, hm2, ⟨v, hB, hv⟩, hbad, hb0, hbl, htn⟩ := hrel
  have HX := jh (ja hbad hb0); clear hbad hb0
  have hzr := hbl.size
  by_cases hlt : k < l.length
  ·have hlk := jg hlt
   obtain ⟨bb, o, cs, rfl, hP, hbw, ⟨rfl, hi0, hi1⟩, hcs⟩ := (HR.out.same (HD.out _ hbl htn) hzr).at_ hlk
   have hts := take_snoc l k hlt
   generalize l[k] = x at *
   have c0 := hcs 0 _ rfl; simp only [IntR_size, Nat.add_zero, Nat.mul_one] at c0
   have HTS := jh (ja hts (ja hlk hcs)); clear hts hlk hcs
   have hlt' : (k : Int) < l.length := by omega
   have y0 : wr.cell? ⟨g, 0, none⟩ = some v := hB.cell 0
   have y1 : wr.cell? ⟨g, 1, none⟩ = some (.bool b) := hB.cell 1
   have f1 : wr.frozen? ⟨g, 1, none⟩ = false := hB.frozen 1
   have hsz1 : (wr.setCell ⟨g, 1, none⟩ (.bool false)).heap.size = wr.heap.size := by simp
   cases b
   ·by_cases h1 : x < 0
    ·have h1' := jh h1
     have hS := hB.set_ 1 (.bool true)
     have hv' := hv.setCell (o := 1) (Wr.own_ne hB hv (by decide)) (.bool true)
     have hbl' : Below base w (wr.setCell ⟨g, 1, none⟩ (.bool true)) := hbl.setCell (p := ⟨g, 1, none⟩) hg _
     have htn' : Turn g w (wr.setCell ⟨g, 1, none⟩ (.bool true)) := htn.trans (Turn.set_ 1 _)
     have HH := jh (ja hS (ja hv' (ja hbl' htn')))
     have hbl0 := jh hbl
     clear hS hv' hbl' htn' hB hv hbl htn
     go_wp2_with fail
     (try simp only [Exit.inBlock, Exit.then]); refine bodyPost_ret (results_none rfl _ _ _) rfl ?_
     obtain ⟨hS, hv', hbl', htn'⟩ := HH.out
     refine ⟨rfl, ⟨m, by omega, by omega, v, ?_, hv'⟩, hbl', htn'⟩
     rw [show (bad || !l.all inW) = true from ?_]
     ·exact hS
     ·rw [not_all HTS.out.2.1 (by unfold inW; rw [jd (by have := h1'.out; omega), Bool.false_and])]; simp
    ·have h1' : decide (x < 0) = false := jd h1
     by_cases h2 : 1125899906842624 < x
     ·have h2' := jh h2
      clear h1
      have hS := hB.set_ 1 (.bool true)
      have hv' := hv.setCell (o := 1) (Wr.own_ne hB hv (by decide)) (.bool true)
      have hbl' : Below base w (wr.setCell ⟨g, 1, none⟩ (.bool true)) := hbl.setCell (p := ⟨g, 1, none⟩) hg _
      have htn' : Turn g w (wr.setCell ⟨g, 1, none⟩ (.bool true)) := htn.trans (Turn.set_ 1 _)
      have HH := jh (ja hS (ja hv' (ja hbl' htn')))
      have hbl0 := jh hbl
      clear hS hv' hbl' htn' hB hv hbl htn
      go_wp2_with fail
      (try simp only [Exit.inBlock, Exit.then]); refine bodyPost_ret (results_none rfl _ _ _) rfl ?_
      obtain ⟨hS, hv', hbl', htn'⟩ := HH.out
      refine ⟨rfl, ⟨m, by omega, by omega, v, ?_, hv'⟩, hbl', htn'⟩
      rw [show (bad || !l.all inW) = true from ?_]
      ·exact hS
      ·rw [not_all HTS.out.2.1 (by unfold inW; rw [Bool.and_comm, jd (by have := h2'.out; omega), Bool.false_and])]; simp
     ·have h2' : decide (1125899906842624 < x) = false := jd h2
      have HX12 := jh (ja h1 h2)
      clear h1 h2
      go_wp2_with fail
      have hS := hB.set_ 1 (.bool false)
      have hv' := hv.setCell (o := 1) (Wr.own_ne hB hv (by decide)) (.bool false)
      have hbl' : Below base w (wr.setCell ⟨g, 1, none⟩ (.bool false)) := hbl.setCell (p := ⟨g, 1, none⟩) hg _
      have htn' : Turn g w (wr.setCell ⟨g, 1, none⟩ (.bool false)) := htn.trans (Turn.set_ 1 _)
      clear hB hv hbl htn y0 y1 f1 c0
      generalize (wr.setCell ⟨g, 1, none⟩ (.bool false)) = ws at *
      haveI : Nonempty (Wd (WrB g v false)) := ⟨⟨ws, hS⟩⟩
      have y0 := WrB.cell0 (g := g) (v := v) (b := false)
      have hsz := hbl'.size
      have hlt1 := hv'.lt
      refine wp_region_mix (.seg [0, 1, 2, 3, 4, 5, 6] 7 (.seg [] 8 (.seg [] 9 (.seg [] 10 (.last [] 11))))) (fun w' => ∃ d : Wd (WrB g v false), w' = d.w) (by kernel_rfl) (by kernel_rfl) (fun _ _ d _ _ h => by cases d <;> exact h) (ClsW.mk (D := WrB g v false) hS.drew) ?_
      unfold wpMix; simp only [pick, j1, j2, j3, j4]
      (repeat (show wpQuiet _ _ _ _ (_ :: _) _; go_big_quiet_step (fail))); refine qn ?_
      go_wp2_with fail
      refine (varint_any _ _ (wrap_u64_bd _).1 (wrap_u64_bd _).2).mono ?_
      rintro e w2 ⟨⟨v2, j, rfl, hv2, hj1, hj2⟩, hb2'⟩
      have hb2 : Below ws.heap.size ws w2 := (jb _ ws).drew.tr hb2'
      have hz2 := hb2.size
      have hS2 := hS.ext hb2
      clear hb2'
      go_wp2_with fail
      dsimp only [wpList, SegQ]
      refine ⟨fun w' => ∃ d : Wd (WrB g v false), w' = d.w, ClsW.mk (D := WrB g v false) hS2, fun _ h => h, ?_⟩
      unfold wpMix; simp only [pick, j1, j2, j3, j4]
      (repeat (show wpQuiet _ _ _ _ (_ :: _) _; go_big_quiet_step (fail))); refine qn ?_
      refine wpList_append_bts rfl (.tmp 35) (.tmp 38) rfl base ws.heap.size v m rfl (hv'.ext hb2) v2 j rfl hv2 (by omega) (fun g hg h => by have := (hlt1 g h.symm).2; omega) (by omega) (by omega) ?_
      intro v3 w3 hv3 hb3 hg3 hat3
      obtain ⟨A3, c3, rfl, _⟩ := hv3.form
      have hne3 : some g ≠ v.ownBlock := fun h => Wr.own_ne hS hv' (by decide) h.symm
      have hS3 := hS2.grown hg3 hne3
      go_simp
      dsimp only [wpList, SegQ]
      refine ⟨fun w' => ∃ d : Wd (WrB g v false), w' = d.w, ClsW.mk (D := WrB g v false) hS3, fun _ h => h, ?_⟩
      unfold wpMix; simp only [pick, j1, j2, j3, j4]
      (repeat (show wpQuiet _ _ _ _ (_ :: _) _; go_big_quiet_step (fail))); refine qn ?_
      go_wp2_with fail
      dsimp only [wpList, SegQ]
      refine ⟨fun w' => ∃ d : Wd (WrB g v false), w' = d.w, ClsW.mk (D := WrB g v false) hS3, fun _ h => h, ?_⟩
      unfold wpMix; simp only [pick, j1, j2, j3, j4]
      (repeat (show wpQuiet _ _ _ _ (_ :: _) _; go_big_quiet_step (fail))); refine qn ?_
      go_wp2_with fail
      dsimp only [wpList, SegQ]
      refine ⟨fun w' => ∃ d : Wd (WrB g v false), w' = d.w, ClsW.mk (D := WrB g v false) hS3, fun _ h => h, ?_⟩
      unfold wpMix; simp only [pick, j1, j2, j3, j4]
      (repeat (show wpQuiet _ _ _ _ (_ :: _) _; go_big_quiet_step (fail))); refine qn ?_
      have y1 : w3.cell? ⟨g, 0, none⟩ = some v := hS3.cell 0
      have f1 : w3.frozen? ⟨g, 0, none⟩ = false := hS3.frozen 0
      have hS4 := hS3.set_ 0 (.slice A3 (m + j) c3)
      have hv4 := hv3.setCell (o := 0) (Wr.own_ne hS3 hv3 (by decide)) (.slice A3 (m + j) c3)
      have hbl4 : Below base w (w3.setCell ⟨g, 0, none⟩ (.slice A3 (m + j) c3)) := ((hbl'.trans (hb2.mono (by have := hS.lt; omega))).trans hb3).setCell (p := ⟨g, 0, none⟩) hg _
      have htn4 : Turn g w (w3.setCell ⟨g, 0, none⟩ (.slice A3 (m + j) c3)) := ((htn'.trans (Turn.of_below hb2)).trans (Turn.grown (hv'.ext hb2) hg3)).trans (Turn.set_ 0 _)
      have HWK : Hid (wrap64 ((k : Int) + 1) = ((k + 1 : Nat) : Int)) := jh (by rw [wrap_in _ (by omega)]; rfl)
      have HH := jh (ja hS4 (ja hv4 (ja hbl4 htn4)))
      clear hS4 hv4 hbl4 htn4 hS hv' hbl' htn' hS2 hS3 hv3 hb3 hg3 hat3 hv2 hb2 y0
      go_wp2_with fail
      try dsimp only [wpList, SegQ, Exit.then, Exit.inBlock]
      go_at_K
      go_wp2_with fail
      go_round
      case rel =>
       obtain ⟨hS4, hv4, hbl4, htn4⟩ := HH.out
       refine ⟨k + 1, m + j, false, by omega, by first | rfl | rw [HWK.out], by omega, by omega, ⟨_, hS4, hv4⟩, ?_, (fun h => by cases h), hbl4, htn4⟩
       have h1 := HX.out.1
       have h2 : inW x = true := by unfold inW; rw [decide_eq_true (by have := HX12.out; omega), decide_eq_true (by have := HX12.out; omega)]; rfl
       rw [HTS.out.1, List.all_append]
       simp only [Bool.false_eq, Bool.or_eq_false_iff, Bool.not_eq_eq_eq_not, Bool.not_false] at h1
       rw [h1.1, h1.2]
       simp [h2]
      case measure => first | (simp [intOf]; omega) | (rw [HWK.out]; simp [intOf]; omega)
   ·have hS := hB.set_ 1 (.bool true)
    have hv' := hv.setCell (o := 1) (Wr.own_ne hB hv (by decide)) (.bool true)
    have hbl' : Below base w (wr.setCell ⟨g, 1, none⟩ (.bool true)) := hbl.setCell (p := ⟨g, 1, none⟩) hg _
    have htn' : Turn g w (wr.setCell ⟨g, 1, none⟩ (.bool true)) := htn.trans (Turn.set_ 1 _)
    have HH := jh (ja hS (ja hv' (ja hbl' htn')))
    have hbl0 := jh hbl
    clear hS hv' hbl' htn' hB hv hbl htn
    go_wp2_with fail
    (try simp only [Exit.inBlock, Exit.then]); refine bodyPost_ret (results_none rfl _ _ _) rfl ?_
    obtain ⟨hS, hv', hbl', htn'⟩ := HH.out
    refine ⟨rfl, ⟨m, by omega, by omega, v, ?_, hv'⟩, hbl', htn'⟩
    rw [show (bad || !l.all inW) = true from ?_]
    ·exact hS
    ·have h1 := HX.out.1
     have hk0 : k = 0 := by have := HX.out.2; simpa using this
     subst hk0
     simp at h1
     rw [h1]; rfl
  ·have hkn : k = l.length := by omega
   subst hkn
   go_wp2_with fail
   (try simp only [Exit.inBlock, Exit.then]); refine bodyPost_ret (results_none rfl _ _ _) rfl ?_
   have h1 := HX.out.1
   rw [List.take_length] at h1
   exact ⟨rfl, ⟨m, by omega, by omega, v, by rw [← h1]; exact hB, hv⟩, hbl, htn⟩
theorem Turn.same_blk {g b : Nat} {w : World} {t : TypeId} {cs : List Value} (hb : Blk w b t cs) (ht : t ≠ 5) (hg : b ≠ g) : ∀ W, Turn g w W → Same (· = b) w W := fun W h k hk _ => by
 subst hk
 exact (h.blk hb ht hg).trans hb.symm
theorem wsome_any (g base n n2 : Nat) (bad : Bool) (v2 : Value) (w0 w : World) (hW : Wr w0 base g bad n) (h0 : Below w0.heap.size w0 w) (hv2 : Bts w w0.heap.size v2 n2) (hn : n + n2 ≤ 95000000) (hg : base ≤ g) (hbz : base ≤ w0.heap.size) :
 Calls Tryz.prog 297 #[.pointer (some ⟨g, 0, none⟩), v2] w (WrOut g base (n + n2) (n + n2) (bad || decide (n2 = 0)) w) := by
 obtain ⟨v, hB0, hv0⟩ := hW
 have hB := hB0.ext h0
 have hv := hv0.ext h0
 have hlt0 := hv0.lt
 have hgl := hB.lt
 have hz0 := h0.size
 obtain ⟨A2, c2, rfl, hc1, hc2⟩ := hv2.form
 have hcase : bad = true ∨ (bad = false ∧ ((n2 : Int) == 0) = true ∧ n2 = 0) ∨ (bad = false ∧ ((n2 : Int) == 0) = false ∧ n2 ≠ 0) := by
  cases bad
  ·by_cases h : n2 = 0
   ·exact .inr (.inl ⟨rfl, by rw [h]; rfl, h⟩)
   ·exact .inr (.inr ⟨rfl, by rw [beq_eq_false_iff_ne]; omega, h⟩)
  ·exact .inl rfl
 have hres : ∀ b : Bool, b = (bad || decide (n2 = 0)) → Blk (w.setCell ⟨g, 1, none⟩ (.bool b)) g 326 [v, .bool b] := fun b _ => hB.set_ 1 (.bool b)
 rcases hcase with rfl | ⟨rfl, h2, h3⟩ | ⟨rfl, h2, h3⟩
 ·have hS := hres true (by simp [*])
  have HB : Hid (true = (true || decide (n2 = 0))) := jh (by simp [*])
  clear hres
  try clear h3
  have hv1 := hv.setCell (o := 1) (Wr.own_ne hB hv (by decide)) (.bool true)
  have hv21 := hv2.setCell (o := 1) (Wr.own_ne hB hv2 (by decide)) (.bool true)
  have y0 := hB.cell 1
  have f0 := hB.frozen 1
  have y1 : (w.setCell ⟨g, 1, none⟩ (.bool true)).cell? ⟨g, 0, none⟩ = some v := hS.cell 0
  have hz1 : (w.setCell ⟨g, 1, none⟩ (.bool true)).heap.size = w.heap.size := by simp
  have hl1 : Below base w (w.setCell ⟨g, 1, none⟩ (.bool true)) := (jb _ _).setCell (p := ⟨g, 1, none⟩) hg _
  have ht1 : Turn g w (w.setCell ⟨g, 1, none⟩ (.bool true)) := Turn.set_ 1 _
  have HH := jh (ja hS (ja hl1 ht1))
  clear hS hl1 ht1 hB hv hB0
  go_enter Tryz.func297, Tryz.ntmps297
  go_wp2_with (at_builtin; go_loud (refine wpList_append_bts rfl (.tmp 20) (.tmp 21) rfl base w0.heap.size v n rfl hv1 _ n2 rfl hv21 hbz (fun g hg h => by have := (hlt0 g h.symm).2; omega) (by omega) (by omega) ?_); intro v3 w3 hv3 hb3 hg3 hat3
   <;> (obtain ⟨hS, hl1, ht1⟩ := HH.out; obtain ⟨A3, c3, rfl, _⟩ := hv3.form; have hS3 := hS.grown hg3 (fun h => Wr.own_ne hS hv1 (by decide) h.symm); have y3 : w3.cell? ⟨g, 0, none⟩ = some v := hS3.cell 0; have f3 : w3.frozen? ⟨g, 0, none⟩ = false := hS3.frozen 0))
  (try simp only [Exit.inBlock, Exit.then]); refine bodyPost_end (results_none rfl _ _ _) rfl ?_
  have hS4 := hS3.set_ 0 (.slice A3 (n + n2) c3)
  have hv4 := hv3.setCell (o := 0) (Wr.own_ne hS3 hv3 (by decide)) (.slice A3 (n + n2) c3)
  exact ⟨rfl, ⟨n + n2, by omega, by omega, _, by rw [← HB.out]; exact hS4, hv4⟩, (hl1.trans hb3).setCell (p := ⟨g, 0, none⟩) hg _, (ht1.trans (Turn.grown hv1 hg3)).trans (Turn.set_ 0 _)⟩
 ·have hS := hres true (by simp [*])
  have HB : Hid (true = (false || decide (n2 = 0))) := jh (by simp [*])
  clear hres
  try clear h3
  have hv1 := hv.setCell (o := 1) (Wr.own_ne hB hv (by decide)) (.bool true)
  have hv21 := hv2.setCell (o := 1) (Wr.own_ne hB hv2 (by decide)) (.bool true)
  have y0 := hB.cell 1
  have f0 := hB.frozen 1
  have y1 : (w.setCell ⟨g, 1, none⟩ (.bool true)).cell? ⟨g, 0, none⟩ = some v := hS.cell 0
  have hz1 : (w.setCell ⟨g, 1, none⟩ (.bool true)).heap.size = w.heap.size := by simp
  have hl1 : Below base w (w.setCell ⟨g, 1, none⟩ (.bool true)) := (jb _ _).setCell (p := ⟨g, 1, none⟩) hg _
  have ht1 : Turn g w (w.setCell ⟨g, 1, none⟩ (.bool true)) := Turn.set_ 1 _
  have HH := jh (ja hS (ja hl1 ht1))
  clear hS hl1 ht1 hB hv hB0
  go_enter Tryz.func297, Tryz.ntmps297
  go_wp2_with (at_builtin; go_loud (refine wpList_append_bts rfl (.tmp 20) (.tmp 21) rfl base w0.heap.size v n rfl hv1 _ n2 rfl hv21 hbz (fun g hg h => by have := (hlt0 g h.symm).2; omega) (by omega) (by omega) ?_); intro v3 w3 hv3 hb3 hg3 hat3
   <;> (obtain ⟨hS, hl1, ht1⟩ := HH.out; obtain ⟨A3, c3, rfl, _⟩ := hv3.form; have hS3 := hS.grown hg3 (fun h => Wr.own_ne hS hv1 (by decide) h.symm); have y3 : w3.cell? ⟨g, 0, none⟩ = some v := hS3.cell 0; have f3 : w3.frozen? ⟨g, 0, none⟩ = false := hS3.frozen 0))
  (try simp only [Exit.inBlock, Exit.then]); refine bodyPost_end (results_none rfl _ _ _) rfl ?_
  have hS4 := hS3.set_ 0 (.slice A3 (n + n2) c3)
  have hv4 := hv3.setCell (o := 0) (Wr.own_ne hS3 hv3 (by decide)) (.slice A3 (n + n2) c3)
  exact ⟨rfl, ⟨n + n2, by omega, by omega, _, by rw [← HB.out]; exact hS4, hv4⟩, (hl1.trans hb3).setCell (p := ⟨g, 0, none⟩) hg _, (ht1.trans (Turn.grown hv1 hg3)).trans (Turn.set_ 0 _)⟩
 ·have hS := hres false (by simp [*])
  have HB : Hid (false = (false || decide (n2 = 0))) := jh (by simp [*])
  clear hres
  try clear h3
  have hv1 := hv.setCell (o := 1) (Wr.own_ne hB hv (by decide)) (.bool false)
  have hv21 := hv2.setCell (o := 1) (Wr.own_ne hB hv2 (by decide)) (.bool false)
  have y0 := hB.cell 1
  have f0 := hB.frozen 1
  have y1 : (w.setCell ⟨g, 1, none⟩ (.bool false)).cell? ⟨g, 0, none⟩ = some v := hS.cell 0
  have hz1 : (w.setCell ⟨g, 1, none⟩ (.bool false)).heap.size = w.heap.size := by simp
  have hl1 : Below base w (w.setCell ⟨g, 1, none⟩ (.bool false)) := (jb _ _).setCell (p := ⟨g, 1, none⟩) hg _
  have ht1 : Turn g w (w.setCell ⟨g, 1, none⟩ (.bool false)) := Turn.set_ 1 _
  have HH := jh (ja hS (ja hl1 ht1))
  clear hS hl1 ht1 hB hv hB0
  go_enter Tryz.func297, Tryz.ntmps297
  go_wp2_with (at_builtin; go_loud (refine wpList_append_bts rfl (.tmp 20) (.tmp 21) rfl base w0.heap.size v n rfl hv1 _ n2 rfl hv21 hbz (fun g hg h => by have := (hlt0 g h.symm).2; omega) (by omega) (by omega) ?_); intro v3 w3 hv3 hb3 hg3 hat3
   <;> (obtain ⟨hS, hl1, ht1⟩ := HH.out; obtain ⟨A3, c3, rfl, _⟩ := hv3.form; have hS3 := hS.grown hg3 (fun h => Wr.own_ne hS hv1 (by decide) h.symm); have y3 : w3.cell? ⟨g, 0, none⟩ = some v := hS3.cell 0; have f3 : w3.frozen? ⟨g, 0, none⟩ = false := hS3.frozen 0))
  (try simp only [Exit.inBlock, Exit.then]); refine bodyPost_end (results_none rfl _ _ _) rfl ?_
  have hS4 := hS3.set_ 0 (.slice A3 (n + n2) c3)
  have hv4 := hv3.setCell (o := 0) (Wr.own_ne hS3 hv3 (by decide)) (.slice A3 (n + n2) c3)
  exact ⟨rfl, ⟨n + n2, by omega, by omega, _, by rw [← HB.out]; exact hS4, hv4⟩, (hl1.trans hb3).setCell (p := ⟨g, 0, none⟩) hg _, (ht1.trans (Turn.grown hv1 hg3)).trans (Turn.set_ 0 _)⟩
end Go.Proofs.YtcmjgghkmdbphaaGreatDoor
namespace Go.Proofs.YtcmjgghkmdbphaaGreatDoor
open Go.RowKit
def Stream.weight (s : Stream) : Nat := 300 + 1300 * s.events.length + 250 * s.keys.length
def weights (l : List Stream) : Nat := (l.map Stream.weight).sum
def listsBad (r : Rec) (f : Fields) : Bool :=
 (f.fNodes && ((decide ((1000 : Int) < r.nodes.length) || !inW r.nodes.length) || !r.nodes.all inW)) || (f.fStreams && ((decide ((1000 : Int) < r.streams.length) || !inW r.streams.length) || !r.streams.all streamB))
theorem lists_c (r : Rec) (nA pA sA : Option Addr) (nc pc sc : Nat) (g base n0 : Nat) (bad : Bool) (P : Nat → Prop) (w : World) (hW : Wr w base g bad n0) (hr : RecAt w P r nA nc pA pc sA sc) (_hP : ∀ k, P k → k < base) (_hn : n0 ≤ 1000000) (_hg : base ≤ g) (hbw : base ≤ w.heap.size) (_hl : r.nodes.length ≤ 1000000) (_hl2 : r.streams.length ≤ 1000000) (hd : weights r.streams ≤ 50000000) (hd2 : ∀ s ∈ r.streams, s.events.length ≤ 40000 ∧ s.keys.length ≤ 40000) (_hTb : Tabs w) (_h2 : 2 ≤ base) :
 Calls Tryz.prog 254 #[.pointer (some ⟨g, 0, none⟩), .agg (r.cells nA nc pA pc sA sc).toArray, .agg (Fields.cells {fTx := true, fBatch := true, fStamp := true}).toArray] w (WrOut g base n0 (n0 + 11000000 + weights r.streams) (bad || listsBad r {fTx := true, fBatch := true, fStamp := true}) w) := by
 have HN := jh hr.nodes.2.2
 have HSt := jh hr.streams.2.2
 clear hr
 have hgl0 := hW.lt
 have B0 := (Blk.new w 46 (r.cells nA nc pA pc sA sc)).alloc (.cells (Fields.cells {fTx := true, fBatch := true, fStamp := true}).toArray 320)
 have B1 := Blk.new1 w (.cells (r.cells nA nc pA pc sA sc).toArray 46) 320 (Fields.cells {fTx := true, fBatch := true, fStamp := true})
 have HW' := jh hW
 have HD := jh (ja hd hd2)
 unfold Rec.cells Fields.cells at B0 B1 ⊢
 clear hd hd2 hW
 go_enter Tryz.func254, Tryz.ntmps254
 go_upto_region 1 with fail
 refine forget (M := fun W => Code.wp _ _ _ _ W) (fun W => Below w.heap.size w W ∧ Blk W w.heap.size 46 [.int .i64 r.kind, .int .i64 r.n, .int .i64 r.to, .bool r.yes, .int .i64 r.stamp.wall, .int .i64 r.stamp.logic, .int .i64 r.stamp.node, .int .i64 r.tx.node, .int .i64 r.tx.life, .int .i64 r.tx.num, .slice nA r.nodes.length nc, .string r.batch.key, .slice pA r.batch.puts.length pc, .int .i64 r.range.first, .int .i64 r.range.last, .int .i64 r.range.owner, .int .i64 r.range.epoch, .slice sA r.streams.length sc] ∧ Blk W (w.heap.size + 1) 320 [.bool false, .bool false, .bool false, .bool true, .bool true, .bool false, .bool true, .bool false, .bool false] ∧ w.heap.size + 2 = W.heap.size) ⟨((jb _ _).al _).al _, B0, B1, by simp⟩ ?_
 clear B0 B1
 rintro w0 ⟨hb0, B0, B1, hs0⟩
 have HW0 := HW'.out.turn hb0
 have hT0 : Turn g w0 w0 := Turn.refl
 have hB0 : Below base w0 w0 := jb _ _
 have hz0 := hB0.size
 have FX := jh (fun (W : World) (h : Turn g w0 W) => ja (recCells (h.blk B0 (by decide) (by omega))) (nineB false false false true true false true false false (h.blk B1 (by decide) (by omega))))
 obtain ⟨⟨c0, c1, c2, c3, c4, c5, c6, c7, c8, c9, c10, c11, c12, c13, c14, c15, c16, c17⟩, ⟨d0, d1, d2, d3, d4, d5, d6, d7, d8⟩⟩ := FX.out w0 hT0
 clear B0 B1
 go_wp2_with fail
 (try simp only [Exit.inBlock, Exit.then]); refine bodyPost_end (results_none rfl _ _ _) rfl ?_
 refine ⟨rfl, ⟨n0, by omega, by omega, ?_⟩, (hb0.mono hbw).trans hB0, (Turn.of_below hb0).trans hT0⟩
 have := HW0
 unfold listsBad
 simpa [Bool.or_assoc] using this
theorem lists_d (r : Rec) (nA pA sA : Option Addr) (nc pc sc : Nat) (g base n0 : Nat) (bad : Bool) (P : Nat → Prop) (w : World) (hW : Wr w base g bad n0) (hr : RecAt w P r nA nc pA pc sA sc) (_hP : ∀ k, P k → k < base) (_hn : n0 ≤ 1000000) (_hg : base ≤ g) (hbw : base ≤ w.heap.size) (_hl : r.nodes.length ≤ 1000000) (_hl2 : r.streams.length ≤ 1000000) (hd : weights r.streams ≤ 50000000) (hd2 : ∀ s ∈ r.streams, s.events.length ≤ 40000 ∧ s.keys.length ≤ 40000) (_hTb : Tabs w) (_h2 : 2 ≤ base) :
 Calls Tryz.prog 254 #[.pointer (some ⟨g, 0, none⟩), .agg (r.cells nA nc pA pc sA sc).toArray, .agg (Fields.cells {fTx := true, fYes := true, fStamp := true}).toArray] w (WrOut g base n0 (n0 + 11000000 + weights r.streams) (bad || listsBad r {fTx := true, fYes := true, fStamp := true}) w) := by
 have HN := jh hr.nodes.2.2
 have HSt := jh hr.streams.2.2
 clear hr
 have hgl0 := hW.lt
 have B0 := (Blk.new w 46 (r.cells nA nc pA pc sA sc)).alloc (.cells (Fields.cells {fTx := true, fYes := true, fStamp := true}).toArray 320)
 have B1 := Blk.new1 w (.cells (r.cells nA nc pA pc sA sc).toArray 46) 320 (Fields.cells {fTx := true, fYes := true, fStamp := true})
 have HW' := jh hW
 have HD := jh (ja hd hd2)
 unfold Rec.cells Fields.cells at B0 B1 ⊢
 clear hd hd2 hW
 go_enter Tryz.func254, Tryz.ntmps254
 go_upto_region 1 with fail
 refine forget (M := fun W => Code.wp _ _ _ _ W) (fun W => Below w.heap.size w W ∧ Blk W w.heap.size 46 [.int .i64 r.kind, .int .i64 r.n, .int .i64 r.to, .bool r.yes, .int .i64 r.stamp.wall, .int .i64 r.stamp.logic, .int .i64 r.stamp.node, .int .i64 r.tx.node, .int .i64 r.tx.life, .int .i64 r.tx.num, .slice nA r.nodes.length nc, .string r.batch.key, .slice pA r.batch.puts.length pc, .int .i64 r.range.first, .int .i64 r.range.last, .int .i64 r.range.owner, .int .i64 r.range.epoch, .slice sA r.streams.length sc] ∧ Blk W (w.heap.size + 1) 320 [.bool false, .bool false, .bool true, .bool true, .bool true, .bool false, .bool false, .bool false, .bool false] ∧ w.heap.size + 2 = W.heap.size) ⟨((jb _ _).al _).al _, B0, B1, by simp⟩ ?_
 clear B0 B1
 rintro w0 ⟨hb0, B0, B1, hs0⟩
 have HW0 := HW'.out.turn hb0
 have hT0 : Turn g w0 w0 := Turn.refl
 have hB0 : Below base w0 w0 := jb _ _
 have hz0 := hB0.size
 have FX := jh (fun (W : World) (h : Turn g w0 W) => ja (recCells (h.blk B0 (by decide) (by omega))) (nineB false false true true true false false false false (h.blk B1 (by decide) (by omega))))
 obtain ⟨⟨c0, c1, c2, c3, c4, c5, c6, c7, c8, c9, c10, c11, c12, c13, c14, c15, c16, c17⟩, ⟨d0, d1, d2, d3, d4, d5, d6, d7, d8⟩⟩ := FX.out w0 hT0
 clear B0 B1
 go_wp2_with fail
 (try simp only [Exit.inBlock, Exit.then]); refine bodyPost_end (results_none rfl _ _ _) rfl ?_
 refine ⟨rfl, ⟨n0, by omega, by omega, ?_⟩, (hb0.mono hbw).trans hB0, (Turn.of_below hb0).trans hT0⟩
 have := HW0
 unfold listsBad
 simpa [Bool.or_assoc] using this
end Go.Proofs.YtcmjgghkmdbphaaGreatDoor
