/- event.Encode: a batch as bytes. event.EncodeEvent: an event as bytes. -/
import Derived.Test.YtcmjgghkmdbphaaGreatDoorB04
set_option maxRecDepth 20000
set_option maxHeartbeats 25600000
namespace Go.Proofs.YtcmjgghkmdbphaaGreatDoor
open Go.RowKit
theorem decode_four (s : ByteArray) (i : Nat) : (Utf8.decode s i).2 ≤ 4 := by
 unfold Utf8.decode
 dsimp only
 repeat' split
 all_goals simp
theorem everyFrom_short {p : Int → Bool} {most : Int} {s : Str} : ∀ (f pos : Nat) (n : Int), everyFrom p most s f pos n = true → s.size < f + pos → n ≤ most → (s.size : Int) ≤ pos + 4 * (most - n)
 | 0, pos, n, _, h, hn => by omega
 | f + 1, pos, n, h, hs, hn => by
   unfold everyFrom at h
   by_cases hp : pos < s.size
   ·rw [if_pos hp] at h
    by_cases hq : (decide (n + 1 ≤ most) && p (Utf8.decode s pos).1) = true
    ·rw [if_pos (by simpa using hq)] at h
     have h1 : n + 1 ≤ most := by simp at hq; exact hq.1
     have h2 := decode_width s pos
     have h4 := decode_four s pos
     have := everyFrom_short f _ _ h (by omega) h1
     omega
    ·rw [if_neg (by simpa using hq)] at h; cases h
   ·omega
theorem everyB_short {p : Int → Bool} {s : Str} (h : everyB p 40 s = true) : s.size ≤ 160 := by
 simp only [everyB, Bool.and_eq_true] at h
 have := everyFrom_short _ _ _ h.1 (by omega) (by omega)
 omega
theorem nameB_short {s : Str} (h : nameB s = true) : s.size ≤ 160 := by
 simp only [nameB, Bool.and_eq_true] at h
 exact everyB_short h.2
theorem keyB_short {s : Str} (h : keyB s = true) : s.size ≤ 160 := everyB_short h
theorem dataB_false : ∀ (l : List Str) (i : Nat) (b : Bool) (n : Int), (dataB l i b n).1 = false → b = false ∧ (l.length = 0 ∨ i + l.length ≤ 20) ∧ ∀ s ∈ l, s.size ≤ 1000
 | [], i, b, n, h => ⟨h, .inl rfl, by simp⟩
 | s :: r, i, true, n, h => by simp [dataB] at h
 | s :: r, i, false, n, h => by
   simp only [dataB, Bool.false_eq_true, if_false] at h
   obtain ⟨h1, h2, h3⟩ := dataB_false r _ _ _ h
   simp only [Bool.or_eq_false_iff, decide_eq_false_iff_not] at h1
   refine ⟨rfl, .inr ?_, fun t ht => ?_⟩
   ·simp only [List.length_cons]; omega
   ·rcases List.mem_cons.1 ht with rfl | ht
    ·omega
    ·exact h3 t ht
theorem putsBig_false : ∀ (l : List Put) (b : Bool) (n : Int), putsBig l b n = false → b = false ∧ ∀ p ∈ l, p.data.length ≤ 20 ∧ ∀ s ∈ p.data, s.size ≤ 1000
 | [], b, n, h => ⟨h, by simp⟩
 | p :: r, b, n, h => by
   unfold putsBig at h
   obtain ⟨h1, h2⟩ := putsBig_false r _ _ h
   obtain ⟨h3, h4, h5⟩ := dataB_false _ _ _ _ h1
   refine ⟨h3, fun q hq => ?_⟩
   rcases List.mem_cons.1 hq with rfl | hq
   ·exact ⟨by omega, h5⟩
   ·exact h2 q hq
theorem putsB_names : ∀ (l r : List Put), putsB l r = true → ∀ p ∈ r, nameB p.stream = true ∧ p.data ≠ [] ∧ p.data = p.data.filter validB ∧ -1 ≤ p.expect ∧ p.expect ≤ 1099511627776
 | _, [], _, p, hp => by simp at hp
 | l, q :: r, h, p, hp => by
   simp only [putsB, Bool.and_eq_true] at h
   rcases List.mem_cons.1 hp with rfl | hp
   ·have := putB_iff.1 h.1
    exact ⟨this.1, this.2.2.2.2.1, this.2.2.2.2.2, this.2.2.1, this.2.2.2.1⟩
   ·exact putsB_names _ r h.2 p hp
structure Batch.Good (b : Batch) : Prop where
 key : keyB b.key = true
 some : b.puts ≠ []
 few : b.puts.length ≤ 8
 puts : ∀ p ∈ b.puts, (p.data.length ≤ 20 ∧ ∀ s ∈ p.data, s.size ≤ 1000) ∧ nameB p.stream = true ∧ p.data ≠ [] ∧ p.data = p.data.filter validB ∧ -1 ≤ p.expect ∧ p.expect ≤ 1099511627776
theorem checkB_good {b : Batch} (h : checkB b = 0) : b.Good := by
 unfold checkB at h
 by_cases hm : mayB b = true
 ·rw [if_pos hm] at h
  cases hp : putsBig b.puts (decide ((8 : Int) < b.puts.length)) 30000
  ·obtain ⟨h1, h2⟩ := putsBig_false _ _ _ hp
   simp only [mayB, Bool.and_eq_true, decide_eq_true_eq] at hm
   exact ⟨hm.2.1, hm.2.2, by simp at h1; omega, fun p hq => ⟨h2 p hq, putsB_names _ _ hm.1 p hq⟩⟩
  ·rw [hp, if_pos rfl] at h; cases h
 ·rw [if_neg hm] at h; cases h
theorem u64_blk1 {w : World} {g : Nat} {t : TypeId} {x : Int} (h : Blk w g t [.int .u64 x]) (hx : 0 ≤ x ∧ x < limV 0) : U64R.Row w (· = g) (some ⟨g, 0, none⟩) [x] := fun _ => by
 refine ⟨g, 0, rfl, rfl, h.lt, fun i a hi => ?_⟩
 match i, hi with
 | 0, hi =>
   simp at hi; subst hi
   exact ⟨[_], ⟨rfl, hx⟩, fun j u hu => by rw [h.cell]; simpa using hu⟩
theorem u64_blk2 {w : World} {g : Nat} {t : TypeId} {x y : Int} (h : Blk w g t [.int .u64 x, .int .u64 y]) (hx : 0 ≤ x ∧ x < limV 0) (hy : 0 ≤ y ∧ y < limV 0) : U64R.Row w (· = g) (some ⟨g, 0, none⟩) [x, y] := fun _ => by
 refine ⟨g, 0, rfl, rfl, h.lt, fun i a hi => ?_⟩
 match i, hi with
 | 0, hi =>
   simp at hi; subst hi
   exact ⟨[_], ⟨rfl, hx⟩, fun j u hu => by
    rw [h.cell]
    match j, hu with
    | 0, hu => simpa using hu⟩
 | 1, hi =>
   simp at hi; subst hi
   exact ⟨[_], ⟨rfl, hy⟩, fun j u hu => by
    rw [h.cell]
    match j, hu with
    | 0, hu => simpa [U64R] using hu⟩
theorem nums1_ex (v : Value) (n base g : Nat) (t : TypeId) (x : Int) (w : World) (hv : Bts w base v n) (hg : Blk w g t [.int .u64 x]) (hx : 0 ≤ x ∧ x < limV 0) (hl : n ≤ 90000000) (hb : base ≤ w.heap.size) (hd : some g ≠ v.ownBlock) :
 Calls Tryz.prog 230 #[v, .slice (some ⟨g, 0, none⟩) 1 1] w fun e w' => GotMore w v base (n + vlen x) (n + vlen x) e w' ∧ Only (fun g => v.ownBlock = some g) w w' := by
 have h := nums_ex v n base _ 1 [x] (· = g) w hv (u64_blk1 hg hx) hl (by simp) hb (fun k hk => by rw [hk]; exact hd)
 have e : sumV [x] = vlen x := by simp [sumV]
 rw [e] at h; exact h
theorem nums2_ex (v : Value) (n base g : Nat) (t : TypeId) (x y : Int) (w : World) (hv : Bts w base v n) (hg : Blk w g t [.int .u64 x, .int .u64 y]) (hx : 0 ≤ x ∧ x < limV 0) (hy : 0 ≤ y ∧ y < limV 0) (hl : n ≤ 90000000) (hb : base ≤ w.heap.size) (hd : some g ≠ v.ownBlock) :
 Calls Tryz.prog 230 #[v, .slice (some ⟨g, 0, none⟩) 2 2] w fun e w' => GotMore w v base (n + (vlen x + vlen y)) (n + (vlen x + vlen y)) e w' ∧ Only (fun g => v.ownBlock = some g) w w' := by
 have h := nums_ex v n base _ 2 [x, y] (· = g) w hv (u64_blk2 hg hx hy) hl (by simp) hb (fun k hk => by rw [hk]; exact hd)
 have e : sumV [x, y] = vlen x + vlen y := by simp [sumV]
 rw [e] at h; exact h
def OnB (B : Nat) (W w : World) : Prop := Below B W w
instance {B : Nat} {W : World} : Nonempty (Wd (OnB B W)) := ⟨⟨W, jb _ _⟩⟩
theorem OnB.cell {B : Nat} {W : World} {b o : Nat} {v : Value} (hb : b < B) (h : W.cell? ⟨b, o, none⟩ = some v) (d : Wd (OnB B W)) : d.w.cell? ⟨b, o, none⟩ = some v := (Below.cell d.ok (p := ⟨b, o, none⟩) hb).trans h
def lenD (l : List Str) : Nat := (l.map fun s => vlen s.size + s.size).sum
def lenP (p : Put) : Nat := (vlen p.stream.size + p.stream.size) + (vlen (zigI p.expect) + vlen p.data.length) + lenD p.data
def lensP (l : List Put) : Nat := (l.map lenP).sum
def lenB0 (b : Batch) : Nat := (vlen b.key.size + b.key.size) + vlen b.puts.length
def lenB (b : Batch) : Nat := lenB0 b + lensP b.puts
theorem lenD_take {l : List Str} {k : Nat} (h : k < l.length) : lenD (l.take (k + 1)) = lenD (l.take k) + (vlen l[k].size + l[k].size) := by
 unfold lenD; rw [take_snoc l k h, List.map_append, List.sum_append]; simp
theorem lensP_take {l : List Put} {k : Nat} (h : k < l.length) : lensP (l.take (k + 1)) = lensP (l.take k) + lenP l[k] := by
 unfold lensP; rw [take_snoc l k h, List.map_append, List.sum_append]; simp
theorem lenD_bd : ∀ l : List Str, (∀ s ∈ l, s.size ≤ 1000) → lenD l ≤ 1010 * l.length
 | [], _ => by simp [lenD]
 | a :: l, h => by
   have h1 := lenD_bd l fun s hs => h s (by simp [hs])
   have h2 := h a (by simp)
   have h3 := vlen_bd a.size
   have e : lenD (a :: l) = (vlen a.size + a.size) + lenD l := by simp [lenD]
   rw [e, List.length_cons]; omega
theorem lensP_bd : ∀ l : List Put, (∀ p ∈ l, lenP p ≤ 20400) → lensP l ≤ 20400 * l.length
 | [], _ => by simp [lensP]
 | a :: l, h => by
   have h1 := lensP_bd l fun s hs => h s (by simp [hs])
   have h2 := h a (by simp)
   have e : lensP (a :: l) = lenP a + lensP l := by simp [lensP]
   rw [e, List.length_cons]; omega
theorem lenB_bd {b : Batch} (h : checkB b = 0) : 1 ≤ lenB b ∧ lenB b ≤ 400000 := by
 have hg := checkB_good h
 have h1 := keyB_short hg.key
 have h2 := hg.few
 have h3 := lensP_bd b.puts fun p hp => by
  have q := hg.puts p hp
  have q1 := nameB_short q.2.1
  have q2 := lenD_bd p.data q.1.2
  have q3 := q.1.1
  have b1 := vlen_bd p.stream.size
  have b2 := vlen_bd (zigI p.expect)
  have b3 := vlen_bd p.data.length
  unfold lenP; omega
 have b1 := vlen_bd b.key.size
 have b2 := vlen_bd b.puts.length
 unfold lenB lenB0; omega
theorem encodeB_ex (b : Batch) (A : Option Addr) (c : Nat) (P : Nat → Prop) (w : World) (hr : PutR.Row w P A b.puts) (hl : b.puts.length ≤ 1000000) (hk : sfit b.key) (hd : ∀ p ∈ b.puts, p.data.length ≤ 1000000) (hT : Tabs w) (h2 : 2 ≤ w.heap.size) :
 Calls Tryz.prog 138 #[.agg #[.string b.key, .slice A b.puts.length c]] w fun e w' => GotEnc (decide (checkB b = 0)) w.heap.size (lenB b) (lenB b) e w' ∧ Below w.heap.size w w' := by
 have HBV := jh (ja (vlen_bd b.key.size) (vlen_bd b.puts.length))
 have HWP : Hid (IntKind.u64.wrap (b.puts.length : Int) = b.puts.length) := jh (by rw [IntKind.wrap_u64]; omega)
 have C := check_any b A c P (w.alloc (.cells #[.string b.key, .slice A b.puts.length c] 25)) (hr.ext ((jb _ _).al _)) hl hk hd (hT.below ((jb _ _).al _)) (by simp; omega)
 have HR := jh (hr.mono (Q := fun g => g < w.heap.size) fun g _ h => h)
 have HL := jh hl
 clear hr hd hl
 by_cases hc : checkB b = 0
 ·have HG := jh (checkB_good hc)
  have HC := jh hc
  rw [hc] at C
  clear hc
  go_enter Tryz.func138, Tryz.ntmps138
  go_wp2_with fail
  refine C.mono ?_
  clear C
  rintro e w1 ⟨rfl, hb1⟩
  have B1 := (Blk.new w 25 [.string b.key, .slice A b.puts.length c]).ext hb1
  have hw1 : Below w.heap.size w w1 := ((jb _ _).al _).tr hb1
  have hz1 := hb1.size
  simp only [World.size_alloc] at hz1
  have hdr : w1.drew.heap.size = w1.heap.size := rfl
  clear hb1
  have x0 := OnB.cell (B := w.heap.size + 1) (W := w1) (by omega) (B1.cell 0 : w1.cell? ⟨w.heap.size, 0, none⟩ = some (.string b.key))
  have x1 := OnB.cell (B := w.heap.size + 1) (W := w1) (by omega) (B1.cell 1 : w1.cell? ⟨w.heap.size, 1, none⟩ = some (.slice A b.puts.length c))
  go_wp2_with fail
  go_cut [3] from 11 to 19 (fun v wx => ∃ n, Bts wx (w.heap.size + 1) v n ∧ 1 ≤ n ∧ n ≤ 200 ∧ Below (w.heap.size + 1) w1 wx ∧ Hid (n = lenB0 b))
  case first =>
   refine wp_region_mix (.fork [0, 1, 3, 4, 5, 6] 2 (.seg [] 7 (.seg [] 8 (.leaf [9]))) 7 (.seg [] 2 (.seg [] 8 (.leaf [9])))) (fun w' => ∃ d : Wd (OnB (w.heap.size + 1) w1), w' = d.w) (by kernel_rfl) (by kernel_rfl) (fun _ _ d _ _ h => by cases d <;> exact h) (ClsW.mk (jb _ _).drew) ?_
   unfold wpMix; simp only [pick, j1, j2, j3, j4]
   (repeat (show wpQuiet _ _ _ _ (_ :: _) _; go_big_quiet_step (fail))); refine qn ?_
   constructor
   ·go_wp2_with fail
    refine (text_ex _ 0 0 b.key _ (Bts.nil_ _ _) (by have := keyB_short HG.out.key; have := HBV.out; omega)).mono ?_
    rintro e w2 ⟨⟨v2, n2, rfl, hv2, hn2, hn2'⟩, hb2'⟩
    have hb2 : Below w1.heap.size w1 w2 := (jb _ w1).drew.tr hb2'
    clear hb2'
    go_wp2_with fail
    dsimp only [wpList, SegQ]
    refine ⟨fun w' => ∃ d : Wd (OnB (w.heap.size + 1) w1), w' = d.w, ClsW.mk (hb2.mono (by omega)), fun _ h => h, ?_⟩
    unfold wpMix; simp only [pick, j1, j2, j3, j4]
    (repeat (show wpQuiet _ _ _ _ (_ :: _) _; go_big_quiet_step (fail))); refine qn ?_
    go_wp2_with fail
    dsimp only [wpList, SegQ]
    refine ⟨fun w' => ∃ d : Wd (OnB (w.heap.size + 1) w1), w' = d.w, ClsW.mk ((hb2.mono (by omega)).alloc (by have := hb2.size; omega) _), fun _ h => h, ?_⟩
    unfold wpMix; simp only [pick, j1, j2, j3, j4]
    (repeat (show wpQuiet _ _ _ _ (_ :: _) _; go_big_quiet_step (fail))); refine qn ?_
    go_wp2_with fail
    have hne : some w2.heap.size ≠ v2.ownBlock := fun h => by have := (hv2.lt _ h.symm).2; omega
    refine (nums1_ex v2 n2 (w.heap.size + 1) w2.heap.size 303 _ _ ((hv2.base_ hz1).ext ((jb _ _).al _)) (Blk.new w2 _ _) (wrap_u64_bd _) (by have := keyB_short HG.out.key; have := HBV.out; omega) (by have := hb2.size; simp; omega) hne).mono ?_
    rintro e w3 ⟨⟨v3, n3, rfl, hv3, hn3, hn3', _⟩, ho3⟩
    have hb3 : Below (w.heap.size + 1) w1 w3 := ((hb2.mono hz1).alloc (by have := hb2.size; omega) _).trans (ho3.low (fun g hg => by have := (hv2.lt g hg).1; exact Nat.le_trans hz1 this) (by have := hb2.size; simp; omega))
    go_wp2_with fail
    dsimp only [wpList, SegQ]
    refine ⟨fun w' => ∃ d : Wd (OnB (w.heap.size + 1) w1), w' = d.w, ClsW.mk hb3, fun _ h => h, ?_⟩
    unfold wpMix; simp only [pick, j1, j2, j3, j4]
    (repeat (show wpQuiet _ _ _ _ (_ :: _) _; go_big_quiet_step (fail))); refine qn ?_
    go_wp2_with fail
    go_meet
    rw [HWP.out] at hn3 hn3'
    have := HBV.out
    exact ⟨n3, hv3, by omega, by have := keyB_short HG.out.key; omega, hb3, jh (by unfold lenB0; omega)⟩
   ·go_wp2_with fail
    dsimp only [wpList, SegQ]
    refine ⟨fun w' => ∃ d : Wd (OnB (w.heap.size + 1) w1), w' = d.w, ClsW.mk ((jb _ w1).drew.alloc (by omega) _), fun _ h => h, ?_⟩
    unfold wpMix; simp only [pick, j1, j2, j3, j4]
    (repeat (show wpQuiet _ _ _ _ (_ :: _) _; go_big_quiet_step (fail))); refine qn ?_
    go_wp2_with fail
    refine (text_ex _ 0 0 b.key _ (Bts.nil_ _ _) (by have := keyB_short HG.out.key; have := HBV.out; omega)).mono ?_
    rintro e w2 ⟨⟨v2, n2, rfl, hv2, hn2, hn2'⟩, hb2'⟩
    have hb2 := (jb (w.heap.size + 1) w1).drew.trans (((jb _ w1.drew).alloc hz1 _).trans (hb2'.mono (by simp; omega)))
    have hg2 := (Blk.new w1.drew 303 [.int .u64 (IntKind.u64.wrap b.puts.length)]).ext hb2'
    have hz2 := hb2'.size
    have hlt2 := hv2.lt
    clear hb2'
    go_wp2_with fail
    dsimp only [wpList, SegQ]
    refine ⟨fun w' => ∃ d : Wd (OnB (w.heap.size + 1) w1), w' = d.w, ClsW.mk hb2, fun _ h => h, ?_⟩
    unfold wpMix; simp only [pick, j1, j2, j3, j4]
    (repeat (show wpQuiet _ _ _ _ (_ :: _) _; go_big_quiet_step (fail))); refine qn ?_
    go_wp2_with fail
    have hne : some w1.heap.size ≠ v2.ownBlock := fun h => by have := (hlt2 _ h.symm).1; simp at this; omega
    refine (nums1_ex v2 n2 (w.heap.size + 1) w1.heap.size 303 _ _ (hv2.base_ (by simp; omega)) hg2 (wrap_u64_bd _) (by have := keyB_short HG.out.key; have := HBV.out; omega) (by simp at hz2; omega) hne).mono ?_
    rintro e w3 ⟨⟨v3, n3, rfl, hv3, hn3, hn3', _⟩, ho3⟩
    have hb3 : Below (w.heap.size + 1) w1 w3 := hb2.trans (ho3.low (fun g hg => by have := (hlt2 g hg).1; simp at this; omega) (by simp at hz2; omega))
    go_wp2_with fail
    dsimp only [wpList, SegQ]
    refine ⟨fun w' => ∃ d : Wd (OnB (w.heap.size + 1) w1), w' = d.w, ClsW.mk hb3, fun _ h => h, ?_⟩
    unfold wpMix; simp only [pick, j1, j2, j3, j4]
    (repeat (show wpQuiet _ _ _ _ (_ :: _) _; go_big_quiet_step (fail))); refine qn ?_
    go_wp2_with fail
    go_meet
    rw [HWP.out] at hn3 hn3'
    have := HBV.out
    exact ⟨n3, hv3, by omega, by have := keyB_short HG.out.key; omega, hb3, jh (by unfold lenB0; omega)⟩
  case rest =>
   obtain ⟨n0, hv0, hn0, hn0', hbc, HN0⟩ := hcut
   clear x0 x1
   have x1 : wc.cell? ⟨w.heap.size, 1, none⟩ = some (.slice A b.puts.length c) := (Below.cell hbc (p := ⟨w.heap.size, 1, none⟩) (by show w.heap.size < _; omega)).trans (B1.cell 1)
   have hlc := hbc.size
   go_wp2_with fail
   clear x1
   go_loopw [3, 5, 7, 23, 43] (fun out _ _ i _ wr => ∃ (k n : Nat), k ≤ b.puts.length ∧ i = .int .i64 k ∧ Bts wr (w.heap.size + 1) out n ∧ 1 ≤ n ∧ n ≤ 200 + 20400 * k ∧ Below (w.heap.size + 1) w1 wr ∧ Hid (n = lenB0 b + lensP (b.puts.take k))) (fun _ _ _ i _ _ => b.puts.length - (intOf i).toNat)
   case atStart => exact ⟨0, n0, Nat.zero_le _, rfl, hv0, by omega, by omega, hbc, jh (by have := HN0.out; simpa [lensP] using this)⟩
   case round =>
    obtain ⟨k, n, hkl, rfl, hv, hn1, hn2, hbl, HN⟩ := hrel
    have hzr := hbl.size
    have h8 := HG.out.few
    by_cases hlt : k < b.puts.length
    ·have hlk := jg hlt
     obtain ⟨bb, o, cs, rfl, hP, hbw, hrep, hcs⟩ := (HR.out.ext (hw1.trans (hbl.mono (by omega)))).at_ hlk
     have hgp := HG.out.puts _ (List.getElem_mem hlt)
     have HTK := lensP_take hlt
     generalize b.puts[k] = p at hlk hrep hgp HTK
     replace HTK := jh HTK
     have HVP := jh (ja (vlen_bd p.stream.size) (ja (vlen_bd (zigI p.expect)) (vlen_bd p.data.length)))
     obtain ⟨A2, q2, rfl, hf1, hf2, hf3, hf4, hrow⟩ := put_rep.1 hrep
     have c0 := hcs 0 _ rfl; have c1 := hcs 1 _ rfl; have c2 := hcs 2 _ rfl; simp only [PutR_size, Nat.add_zero] at c0 c1 c2
     have HP := jh hgp; clear hgp hcs hrep hlk
     have hlt' : (k : Int) < b.puts.length := by omega
     go_wp2_with fail
     have hbx := Blk.new wr 69 [.string p.stream, .int .i64 p.expect, .slice A2 p.data.length q2]
     have hax := (jb wr.heap.size wr).al (.cells #[.string p.stream, .int .i64 p.expect, .slice A2 p.data.length q2] 69)
     have hrowx := hrow.ext hax
     have hvx := hv.ext hax
     have hzx : (wr.alloc (.cells #[.string p.stream, .int .i64 p.expect, .slice A2 p.data.length q2] 69)).heap.size = wr.heap.size + 1 := by simp
     have hblx := hbl.trans (hax.mono (by omega))
     clear c0 c1 c2 hrow hv
     generalize (wr.alloc (.cells #[.string p.stream, .int .i64 p.expect, .slice A2 p.data.length q2] 69)) = wx at *
     generalize wr.heap.size = bx at *
     have x0 := OnB.cell (B := bx + 1) (W := wx) (by omega) (hbx.cell 0 : wx.cell? ⟨bx, 0, none⟩ = some (.string p.stream))
     have x1 := OnB.cell (B := bx + 1) (W := wx) (by omega) (hbx.cell 1 : wx.cell? ⟨bx, 1, none⟩ = some (.int .i64 p.expect))
     have x2 := OnB.cell (B := bx + 1) (W := wx) (by omega) (hbx.cell 2 : wx.cell? ⟨bx, 2, none⟩ = some (.slice A2 p.data.length q2))
     have hdx : wx.drew.heap.size = wx.heap.size := rfl
     refine wp_region_mix (.seg [0, 1, 2, 4, 5, 7, 8, 9, 10] 3 (.seg [] 6 (.seg [] 11 (.seg [] 12 (.leaf [13]))))) (fun w' => ∃ d : Wd (OnB (bx + 1) wx), w' = d.w) (by kernel_rfl) (by kernel_rfl) (fun _ _ d _ _ h => by cases d <;> exact h) (ClsW.mk (jb _ _).drew) ?_
     unfold wpMix; simp only [pick, j1, j2, j3, j4]
     (repeat (show wpQuiet _ _ _ _ (_ :: _) _; go_big_quiet_step (fail))); refine qn ?_
     go_wp2_with fail
     refine (text_ex _ n (w.heap.size + 1) p.stream _ (hvx.ext (jb _ _).drew) (by have := nameB_short HP.out.2.1; have := HVP.out; omega)).mono ?_
     rintro e w2 ⟨⟨v2, n2, rfl, hv2, hm2, hm2'⟩, hb2'⟩
     have hb2 : Below wx.heap.size wx w2 := (jb _ wx).drew.tr hb2'
     have hz2 := hb2.size
     have hlt2 := hv2.lt
     clear hb2'
     go_wp2_with fail
     dsimp only [wpList, SegQ]
     refine ⟨fun w' => ∃ d : Wd (OnB (bx + 1) wx), w' = d.w, ClsW.mk (hb2.mono (by omega)), fun _ h => h, ?_⟩
     unfold wpMix; simp only [pick, j1, j2, j3, j4]
     (repeat (show wpQuiet _ _ _ _ (_ :: _) _; go_big_quiet_step (fail))); refine qn ?_
     go_wp2_with fail
     refine (zig_ex p.expect _ hf2).mono ?_
     rintro e w2' ⟨rfl, rfl⟩
     have hz := zigI_bd hf2
     generalize hzz : zigI p.expect = z at *
     replace hzz := jh hzz
     go_wp2_with fail
     dsimp only [wpList, SegQ]
     refine ⟨fun w' => ∃ d : Wd (OnB (bx + 1) wx), w' = d.w, ClsW.mk (hb2.mono (by omega)), fun _ h => h, ?_⟩
     unfold wpMix; simp only [pick, j1, j2, j3, j4]
     (repeat (show wpQuiet _ _ _ _ (_ :: _) _; go_big_quiet_step (fail))); refine qn ?_
     go_wp2_with fail
     dsimp only [wpList, SegQ]
     refine ⟨fun w' => ∃ d : Wd (OnB (bx + 1) wx), w' = d.w, ClsW.mk ((hb2.mono (by omega)).alloc (by omega) _), fun _ h => h, ?_⟩
     unfold wpMix; simp only [pick, j1, j2, j3, j4]
     (repeat (show wpQuiet _ _ _ _ (_ :: _) _; go_big_quiet_step (fail))); refine qn ?_
     go_wp2_with fail
     have hne : some w2.heap.size ≠ v2.ownBlock := fun h => by have := (hlt2 _ h.symm).2; omega
     refine (nums2_ex v2 n2 (bx + 1) w2.heap.size 303 z (p.data.length : Int) (w2.alloc (.cells #[.int .u64 z, .int .u64 (p.data.length : Int)] 303)) ((hv2.base_ (by omega)).ext ((jb _ _).al _)) (Blk.new w2 _ _) hz ⟨by omega, by simp only [limV]; have := HP.out.1.1; omega⟩ (by have := nameB_short HP.out.2.1; have := HVP.out; omega) (by simp; omega) hne).mono ?_
     rintro e w3 ⟨⟨v3, n3, rfl, hv3, hn3, hn3', _⟩, ho3⟩
     have hb3 : Below (bx + 1) wx w3 := ((hb2.mono (by omega)).alloc (by omega) _).trans (ho3.low (fun g hg => by have := (hlt2 g hg).1; omega) (by simp; omega))
     have hz3 := hb3.size
     go_wp2_with fail
     dsimp only [wpList, SegQ]
     refine ⟨fun w' => ∃ d : Wd (OnB (bx + 1) wx), w' = d.w, ClsW.mk hb3, fun _ h => h, ?_⟩
     unfold wpMix; simp only [pick, j1, j2, j3, j4]
     (repeat (show wpQuiet _ _ _ _ (_ :: _) _; go_big_quiet_step (fail))); refine qn ?_
     have hl3 := hb3
     have y2 : w3.cell? ⟨bx, 2, none⟩ = some (.slice A2 p.data.length q2) := x2 ⟨w3, hb3⟩
     have hv3' := hv3.base_ (show w.heap.size + 1 ≤ bx + 1 by omega)
     have hrow3 := hrowx.same (w' := w3) (Same.of_belowB (B := bx) (hb3.mono (by omega)) (fun g hg => by omega)) (by omega)
     have hbl3 : Below (w.heap.size + 1) w1 w3 := hblx.trans (hb3.mono (by omega))
     have hmn : n3 ≤ n + 200 := by have := nameB_short HP.out.2.1; have := HVP.out; omega
     have hn31 : 1 ≤ n3 := by omega
     have HN3 : Hid (n3 = n + ((vlen p.stream.size + p.stream.size) + (vlen z + vlen p.data.length))) := jh (by omega)
     have HROW := jh hrow3
     have HWK : Hid (wrap64 ((k : Int) + 1) = ((k + 1 : Nat) : Int)) := jh (by have := HL.out; rw [wrap_in _ (by omega)]; rfl)
     clear x0 x1 x2 hl3 hb3 ho3 hv3 hv2 hlt2 hb2 hrow3 hrowx hvx hn3 hn3' hm2 hm2'
     go_wp2_with fail
     clear y2
     go_loopw [3, 7, 43] (fun out _ j wr => ∃ (m n' : Nat), m ≤ p.data.length ∧ j = .int .i64 m ∧ Bts wr (w.heap.size + 1) out n' ∧ 1 ≤ n' ∧ n' ≤ n3 + 1010 * m ∧ Below w3.heap.size w3 wr ∧ Hid (n' = n3 + lenD (p.data.take m))) (fun _ _ j _ => p.data.length - (intOf j).toNat)
     case atStart => exact ⟨0, n3, Nat.zero_le _, rfl, hv3', by omega, by omega, jb _ _, jh (by simp [lenD])⟩
     case round =>
      obtain ⟨m, n', hml, rfl, hv', hn1', hn2', hbq, HM⟩ := hrel
      have h20 := HP.out.1.1
      by_cases hmt : m < p.data.length
      ·have hlk := jg hmt
       obtain ⟨b3, o3, cs, rfl, hP3, hb3, ⟨rfl, hsf⟩, hcs⟩ := (HROW.out.ext hbq).at_ hlk
       have hs1 := HP.out.1.2 _ (List.getElem_mem hmt)
       have HDT := jh (lenD_take hmt)
       have hvs := vlen_bd p.data[m].size
       generalize p.data[m] = s at *
       have c0 := hcs 0 _ rfl; simp only [StrR_size, Nat.add_zero, Nat.mul_one] at c0
       clear hcs hlk
       have hmt' : (m : Int) < p.data.length := by omega
       go_wp2_with fail
       refine (text_ex _ n' (w.heap.size + 1) s _ hv' (by omega)).mono ?_
       rintro e w5 ⟨⟨v5, n5, rfl, hv5, hm5, hm5'⟩, hb5⟩
       clear c0
       go_wp2_with fail
       go_round
       case rel => exact ⟨m + 1, n5, by omega, by go_num, hv5.base_ (by have := hbq.size; omega), by omega, by omega, hbq.tr hb5, jh (by have q1 := HM.out; have q2 := HDT.out; omega)⟩
       case measure => simp [intOf]; omega
      ·have hmn' : m = p.data.length := by omega
       subst hmn'
       have HNX : Hid (n' = lenB0 b + lensP (b.puts.take (k + 1))) := jh (by
        have q1 := HM.out; rw [List.take_length] at q1
        have q2 := HTK.out; have q3 := HN3.out; have q4 := HN.out; have q5 := hzz.out
        have q6 : lenP p = (vlen p.stream.size + p.stream.size) + (vlen (zigI p.expect) + vlen p.data.length) + lenD p.data := rfl
        rw [q5] at q6; omega)
       go_wp2_with fail
       go_round
       case rel => exact ⟨k + 1, n', by omega, by first | rfl | rw [HWK.out], hv', by omega, by omega, hbl3.trans (hbq.mono (by omega)), HNX⟩
       case measure => first | (simp [intOf]; omega) | (rw [HWK.out]; simp [intOf]; omega)
    ·go_wp2_with fail
     go_ret
     refine ⟨?_, hw1.trans (hbl.mono (by omega))⟩
     rw [decide_eq_true HC.out]
     have q1 := HN.out
     rw [show k = b.puts.length by omega, List.take_length] at q1
     have q : lenB b = lenB0 b + lensP b.puts := rfl
     exact GotEnc.yes ⟨_, n, rfl, hv.base_ (by omega), by omega, by omega⟩
 ·have HC := jh hc
  have hc' : ((checkB b) != 0) = true := by rw [bne_iff_ne]; exact hc
  clear hc
  go_enter Tryz.func138, Tryz.ntmps138
  go_wp2_with fail
  refine C.mono ?_
  clear C
  rintro e w1 ⟨rfl, hb1⟩
  go_wp2_with fail
  go_ret
  refine ⟨?_, ((jb _ _).al _).tr hb1⟩
  rw [jd HC.out]
  exact GotEnc.no rfl
theorem encodeB_any (b : Batch) (A : Option Addr) (c : Nat) (P : Nat → Prop) (w : World) (hr : PutR.Row w P A b.puts) (hl : b.puts.length ≤ 1000000) (hk : sfit b.key) (hd : ∀ p ∈ b.puts, p.data.length ≤ 1000000) (hT : Tabs w) (h2 : 2 ≤ w.heap.size) :
 Calls Tryz.prog 138 #[.agg #[.string b.key, .slice A b.puts.length c]] w fun e w' => GotEnc (decide (checkB b = 0)) w.heap.size 1 400000 e w' ∧ Below w.heap.size w w' :=
 (encodeB_ex b A c P w hr hl hk hd hT h2).mono fun _ _ h => ⟨h.1.wide (fun q => (lenB_bd (of_decide_eq_true q)).1) (fun q => (lenB_bd (of_decide_eq_true q)).2), h.2⟩
end Go.Proofs.YtcmjgghkmdbphaaGreatDoor
namespace Go.Proofs.YtcmjgghkmdbphaaGreatDoor
open Go.RowKit
def eventB (e : Event) : Bool := nameB e.stream && (decide (1 ≤ e.version) && (decide (e.version ≤ 1099511627776) && (decide (e.data.size ≤ 1000) && (validB e.data && (soundB e.stamp && (decide (0 ≤ e.index) && decide (e.index ≤ 160)))))))
theorem eventB_iff {e : Event} : eventB e = true ↔ nameB e.stream = true ∧ 1 ≤ e.version ∧ e.version ≤ 1099511627776 ∧ e.data.size ≤ 1000 ∧ validB e.data = true ∧ soundB e.stamp = true ∧ 0 ≤ e.index ∧ e.index ≤ 160 := by
 simp only [eventB, Bool.and_eq_true, decide_eq_true_eq]
def Event.val (e : Event) : Value := .agg #[.string e.stream, .int .i64 e.version, .string e.data, .int .i64 e.stamp.wall, .int .i64 e.stamp.logic, .int .i64 e.stamp.node, .int .i64 e.index]
theorem encodeE_bad (e : Event) (w : World) (hf : e.fit) (hT : Tabs w) (_h2 : 2 ≤ w.heap.size) (hbb : eventB e = false) :
 Calls Tryz.prog 232 #[e.val] w fun en w' => GotEnc (eventB e) w.heap.size 1 1300 en w' ∧ Below w.heap.size w w' := by
 obtain ⟨hf1, hf2, hf3, hf4, hf5⟩ := hf
 have CN := nameF e.stream (w.alloc (.cells e.cells.toArray 202)) hf1 (hT.below ((jb _ _).al _))
 have CV := fun W (h : Below w.heap.size w W) => valid_any e.data W hf3 (hT.below h)
 have CS := fun W => sound_any e.stamp W
 have CE := fun W => encode_any e.stamp W
 have HF5 := jh hf5
 have HF2 := jh hf2
 clear hf4 hf5 hf2 hf1
 unfold Event.val
 unfold Stamp.val at CS CE
 unfold Event.cells at CN
 have hcase : nameB e.stream = false ∨ (nameB e.stream = true ∧ e.version < 1) ∨ (nameB e.stream = true ∧ ¬ e.version < 1 ∧ 1099511627776 < e.version) ∨
  (nameB e.stream = true ∧ ¬ e.version < 1 ∧ ¬ 1099511627776 < e.version ∧ (1000 : Int) < e.data.size) ∨
  (nameB e.stream = true ∧ ¬ e.version < 1 ∧ ¬ 1099511627776 < e.version ∧ ¬ (1000 : Int) < e.data.size ∧ validB e.data = false) ∨
  (nameB e.stream = true ∧ ¬ e.version < 1 ∧ ¬ 1099511627776 < e.version ∧ ¬ (1000 : Int) < e.data.size ∧ validB e.data = true ∧ soundB e.stamp = false) ∨
  (nameB e.stream = true ∧ ¬ e.version < 1 ∧ ¬ 1099511627776 < e.version ∧ ¬ (1000 : Int) < e.data.size ∧ validB e.data = true ∧ soundB e.stamp = true ∧ e.index < 0) ∨
  (nameB e.stream = true ∧ ¬ e.version < 1 ∧ ¬ 1099511627776 < e.version ∧ ¬ (1000 : Int) < e.data.size ∧ validB e.data = true ∧ soundB e.stamp = true ∧ ¬ e.index < 0 ∧ 160 < e.index) ∨
  (nameB e.stream = true ∧ ¬ e.version < 1 ∧ ¬ 1099511627776 < e.version ∧ ¬ (1000 : Int) < e.data.size ∧ validB e.data = true ∧ soundB e.stamp = true ∧ ¬ e.index < 0 ∧ ¬ 160 < e.index) := by
  cases h1 : nameB e.stream
  ·exact Or.inl rfl
  ·by_cases e.version < 1 <;> by_cases 1099511627776 < e.version <;> by_cases (1000 : Int) < e.data.size <;> cases validB e.data <;> cases soundB e.stamp <;> by_cases e.index < 0 <;> by_cases 160 < e.index <;> simp only [*, true_and, and_true, false_or, or_false, not_true_eq_false, not_false_eq_true, or_true, true_or, false_and, and_false]
 have FX : ∀ W, Below w.heap.size w W → Below (w.heap.size + 1) (w.alloc (.cells #[.string e.stream, .int .i64 e.version, .string e.data, .int .i64 e.stamp.wall, .int .i64 e.stamp.logic, .int .i64 e.stamp.node, .int .i64 e.index] 202)) W →
  W.cell? ⟨w.heap.size, 0, none⟩ = some (.string e.stream) ∧ W.cell? ⟨w.heap.size, 1, none⟩ = some (.int .i64 e.version) ∧ W.cell? ⟨w.heap.size, 2, none⟩ = some (.string e.data) ∧ W.cell? ⟨w.heap.size, 3, none⟩ = some (.int .i64 e.stamp.wall) ∧ W.cell? ⟨w.heap.size, 4, none⟩ = some (.int .i64 e.stamp.logic) ∧ W.cell? ⟨w.heap.size, 5, none⟩ = some (.int .i64 e.stamp.node) ∧ W.cell? ⟨w.heap.size, 6, none⟩ = some (.int .i64 e.index) := fun W _ h => by
  have B := (Blk.new w 202 e.cells)
  have K : ∀ (i : Nat) (v : Value), (w.alloc (.cells e.cells.toArray 202)).cell? ⟨w.heap.size, i, none⟩ = some v → W.cell? ⟨w.heap.size, i, none⟩ = some v := fun i v hv => (Below.cell h (p := ⟨w.heap.size, i, none⟩) (Nat.lt_succ_self _)).trans hv
  exact ⟨K 0 _ (B.cell 0), K 1 _ (B.cell 1), K 2 _ (B.cell 2), K 3 _ (B.cell 3), K 4 _ (B.cell 4), K 5 _ (B.cell 5), K 6 _ (B.cell 6)⟩
 have hcut0 : ∀ W, Below (w.alloc (.cells #[.string e.stream, .int .i64 e.version, .string e.data, .int .i64 e.stamp.wall, .int .i64 e.stamp.logic, .int .i64 e.stamp.node, .int .i64 e.index] 202)).heap.size (w.alloc (.cells #[.string e.stream, .int .i64 e.version, .string e.data, .int .i64 e.stamp.wall, .int .i64 e.stamp.logic, .int .i64 e.stamp.node, .int .i64 e.index] 202)) W →
  Below w.heap.size w W ∧ Below (w.heap.size + 1) (w.alloc (.cells #[.string e.stream, .int .i64 e.version, .string e.data, .int .i64 e.stamp.wall, .int .i64 e.stamp.logic, .int .i64 e.stamp.node, .int .i64 e.index] 202)) W := fun W h => ⟨((jb _ _).al _).tr h, h.mono (by simp)⟩
 have HFX := jh FX
 have HCUT := jh hcut0
 clear FX hcut0
 rcases hcase with g | g | g | g | g | g | g | g | g
 ·have gn : nameB e.stream = false := g
  have HG := jh g
  clear g
  go_enter Tryz.func232, Tryz.ntmps232
  go_wp2_with fail
  refine CN.mono ?_
  clear CN
  rintro en w1 ⟨rfl, hb1⟩
  rw [gn]
  obtain ⟨hw1, hx1⟩ := HCUT.out w1 hb1
  have hz1 := hb1.size
  simp only [World.size_alloc] at hz1
  clear hb1
  obtain ⟨y0, y1, y2, y3, y4, y5, y6⟩ := HFX.out w1 hw1 hx1
  go_wp2_with fail
  go_ret
  refine ⟨?_, hw1⟩
  have hbad : eventB e = false := Bool.eq_false_iff.2 fun h => by
   have h := eventB_iff.1 h
   rw [HG.out] at h; exact absurd h.1 (by simp)
  rw [hbad]
  exact GotEnc.no rfl
 ·have gn : nameB e.stream = true := g.1
  (have g1 : e.version < 1 := g.2)
  have HG := jh g
  clear g
  go_enter Tryz.func232, Tryz.ntmps232
  go_wp2_with fail
  refine CN.mono ?_
  clear CN
  rintro en w1 ⟨rfl, hb1⟩
  rw [gn]
  obtain ⟨hw1, hx1⟩ := HCUT.out w1 hb1
  have hz1 := hb1.size
  simp only [World.size_alloc] at hz1
  clear hb1
  obtain ⟨y0, y1, y2, y3, y4, y5, y6⟩ := HFX.out w1 hw1 hx1
  go_wp2_with fail
  go_ret
  refine ⟨?_, hw1⟩
  have hbad : eventB e = false := Bool.eq_false_iff.2 fun h => by
   have h := eventB_iff.1 h
   have := HG.out.2; omega
  rw [hbad]
  exact GotEnc.no rfl
 ·have gn : nameB e.stream = true := g.1
  (have g1 : decide (e.version < 1) = false := jd (by have := g.2; omega))
  (have g2 : 1099511627776 < e.version := g.2.2)
  have HG := jh g
  clear g
  go_enter Tryz.func232, Tryz.ntmps232
  go_wp2_with fail
  refine CN.mono ?_
  clear CN
  rintro en w1 ⟨rfl, hb1⟩
  rw [gn]
  obtain ⟨hw1, hx1⟩ := HCUT.out w1 hb1
  have hz1 := hb1.size
  simp only [World.size_alloc] at hz1
  clear hb1
  obtain ⟨y0, y1, y2, y3, y4, y5, y6⟩ := HFX.out w1 hw1 hx1
  go_wp2_with fail
  go_ret
  refine ⟨?_, hw1⟩
  have hbad : eventB e = false := Bool.eq_false_iff.2 fun h => by
   have h := eventB_iff.1 h
   have := HG.out.2; omega
  rw [hbad]
  exact GotEnc.no rfl
 ·have gn : nameB e.stream = true := g.1
  (have g1 : decide (e.version < 1) = false := jd (by have := g.2; omega))
  (have g2 : decide (1099511627776 < e.version) = false := jd (by have := g.2; omega))
  (have g3 : (1000 : Int) < e.data.size := g.2.2.2)
  have HG := jh g
  clear g
  go_enter Tryz.func232, Tryz.ntmps232
  go_wp2_with fail
  refine CN.mono ?_
  clear CN
  rintro en w1 ⟨rfl, hb1⟩
  rw [gn]
  obtain ⟨hw1, hx1⟩ := HCUT.out w1 hb1
  have hz1 := hb1.size
  simp only [World.size_alloc] at hz1
  clear hb1
  obtain ⟨y0, y1, y2, y3, y4, y5, y6⟩ := HFX.out w1 hw1 hx1
  go_wp2_with fail
  go_ret
  refine ⟨?_, hw1⟩
  have hbad : eventB e = false := Bool.eq_false_iff.2 fun h => by
   have h := eventB_iff.1 h
   have := HG.out.2; omega
  rw [hbad]
  exact GotEnc.no rfl
 ·have gn : nameB e.stream = true := g.1
  (have g1 : decide (e.version < 1) = false := jd (by have := g.2; omega))
  (have g2 : decide (1099511627776 < e.version) = false := jd (by have := g.2; omega))
  (have g3 : decide ((1000 : Int) < e.data.size) = false := jd (by have := g.2; omega))
  have gv : validB e.data = false := g.2.2.2.2
  have HG := jh g
  clear g
  go_enter Tryz.func232, Tryz.ntmps232
  go_wp2_with fail
  refine CN.mono ?_
  clear CN
  rintro en w1 ⟨rfl, hb1⟩
  rw [gn]
  obtain ⟨hw1, hx1⟩ := HCUT.out w1 hb1
  have hz1 := hb1.size
  simp only [World.size_alloc] at hz1
  clear hb1
  obtain ⟨y0, y1, y2, y3, y4, y5, y6⟩ := HFX.out w1 hw1 hx1
  go_wp2_with fail
  refine (CV w1 hw1).mono ?_
  clear CV y0 y1 y2 y3 y4 y5 y6
  rintro en w2 ⟨rfl, hb2⟩
  rw [gv]
  have hw2 := hw1.tr hb2
  have hx2 := hx1.trans (hb2.mono hz1)
  have hz2 := hb2.size
  clear hb2
  obtain ⟨y0, y1, y2, y3, y4, y5, y6⟩ := HFX.out w2 hw2 hx2
  go_wp2_with fail
  go_ret
  refine ⟨?_, hw2⟩
  have hbad : eventB e = false := Bool.eq_false_iff.2 fun h => by
   have h := eventB_iff.1 h
   rw [gv] at h; exact absurd h.2.2.2.2.1 (by simp)
  rw [hbad]
  exact GotEnc.no rfl
 ·have gn : nameB e.stream = true := g.1
  (have g1 : decide (e.version < 1) = false := jd (by have := g.2; omega))
  (have g2 : decide (1099511627776 < e.version) = false := jd (by have := g.2; omega))
  (have g3 : decide ((1000 : Int) < e.data.size) = false := jd (by have := g.2; omega))
  have gv : validB e.data = true := g.2.2.2.2.1
  have gs : soundB e.stamp = false := g.2.2.2.2.2
  have HG := jh g
  clear g
  go_enter Tryz.func232, Tryz.ntmps232
  go_wp2_with fail
  refine CN.mono ?_
  clear CN
  rintro en w1 ⟨rfl, hb1⟩
  rw [gn]
  obtain ⟨hw1, hx1⟩ := HCUT.out w1 hb1
  have hz1 := hb1.size
  simp only [World.size_alloc] at hz1
  clear hb1
  obtain ⟨y0, y1, y2, y3, y4, y5, y6⟩ := HFX.out w1 hw1 hx1
  go_wp2_with fail
  refine (CV w1 hw1).mono ?_
  clear CV y0 y1 y2 y3 y4 y5 y6
  rintro en w2 ⟨rfl, hb2⟩
  rw [gv]
  have hw2 := hw1.tr hb2
  have hx2 := hx1.trans (hb2.mono hz1)
  have hz2 := hb2.size
  clear hb2
  obtain ⟨y0, y1, y2, y3, y4, y5, y6⟩ := HFX.out w2 hw2 hx2
  go_wp2_with fail
  refine (CS w2).mono ?_
  clear CS y0 y1 y2 y3 y4 y5 y6
  rintro en w3 ⟨rfl, hb3⟩
  rw [gs]
  have hw3 := hw2.tr hb3
  have hx3 := hx2.trans (hb3.mono (by omega))
  have hz3 := hb3.size
  clear hb3
  obtain ⟨y0, y1, y2, y3, y4, y5, y6⟩ := HFX.out w3 hw3 hx3
  go_wp2_with fail
  go_ret
  refine ⟨?_, hw3⟩
  have hbad : eventB e = false := Bool.eq_false_iff.2 fun h => by
   have h := eventB_iff.1 h
   rw [gs] at h; exact absurd h.2.2.2.2.2.1 (by simp)
  rw [hbad]
  exact GotEnc.no rfl
 ·have gn : nameB e.stream = true := g.1
  (have g1 : decide (e.version < 1) = false := jd (by have := g.2; omega))
  (have g2 : decide (1099511627776 < e.version) = false := jd (by have := g.2; omega))
  (have g3 : decide ((1000 : Int) < e.data.size) = false := jd (by have := g.2; omega))
  have gv : validB e.data = true := g.2.2.2.2.1
  have gs : soundB e.stamp = true := g.2.2.2.2.2.1
  (have g7 : e.index < 0 := g.2.2.2.2.2.2)
  have HG := jh g
  clear g
  go_enter Tryz.func232, Tryz.ntmps232
  go_wp2_with fail
  refine CN.mono ?_
  clear CN
  rintro en w1 ⟨rfl, hb1⟩
  rw [gn]
  obtain ⟨hw1, hx1⟩ := HCUT.out w1 hb1
  have hz1 := hb1.size
  simp only [World.size_alloc] at hz1
  clear hb1
  obtain ⟨y0, y1, y2, y3, y4, y5, y6⟩ := HFX.out w1 hw1 hx1
  go_wp2_with fail
  refine (CV w1 hw1).mono ?_
  clear CV y0 y1 y2 y3 y4 y5 y6
  rintro en w2 ⟨rfl, hb2⟩
  rw [gv]
  have hw2 := hw1.tr hb2
  have hx2 := hx1.trans (hb2.mono hz1)
  have hz2 := hb2.size
  clear hb2
  obtain ⟨y0, y1, y2, y3, y4, y5, y6⟩ := HFX.out w2 hw2 hx2
  go_wp2_with fail
  refine (CS w2).mono ?_
  clear CS y0 y1 y2 y3 y4 y5 y6
  rintro en w3 ⟨rfl, hb3⟩
  rw [gs]
  have hw3 := hw2.tr hb3
  have hx3 := hx2.trans (hb3.mono (by omega))
  have hz3 := hb3.size
  clear hb3
  obtain ⟨y0, y1, y2, y3, y4, y5, y6⟩ := HFX.out w3 hw3 hx3
  go_wp2_with fail
  go_ret
  refine ⟨?_, hw3⟩
  have hbad : eventB e = false := Bool.eq_false_iff.2 fun h => by
   have h := eventB_iff.1 h
   have := HG.out.2; omega
  rw [hbad]
  exact GotEnc.no rfl
 ·have gn : nameB e.stream = true := g.1
  (have g1 : decide (e.version < 1) = false := jd (by have := g.2; omega))
  (have g2 : decide (1099511627776 < e.version) = false := jd (by have := g.2; omega))
  (have g3 : decide ((1000 : Int) < e.data.size) = false := jd (by have := g.2; omega))
  have gv : validB e.data = true := g.2.2.2.2.1
  have gs : soundB e.stamp = true := g.2.2.2.2.2.1
  (have g7 : decide (e.index < 0) = false := jd (by have := g.2; omega))
  (have g8 : 160 < e.index := g.2.2.2.2.2.2.2)
  have HG := jh g
  clear g
  go_enter Tryz.func232, Tryz.ntmps232
  go_wp2_with fail
  refine CN.mono ?_
  clear CN
  rintro en w1 ⟨rfl, hb1⟩
  rw [gn]
  obtain ⟨hw1, hx1⟩ := HCUT.out w1 hb1
  have hz1 := hb1.size
  simp only [World.size_alloc] at hz1
  clear hb1
  obtain ⟨y0, y1, y2, y3, y4, y5, y6⟩ := HFX.out w1 hw1 hx1
  go_wp2_with fail
  refine (CV w1 hw1).mono ?_
  clear CV y0 y1 y2 y3 y4 y5 y6
  rintro en w2 ⟨rfl, hb2⟩
  rw [gv]
  have hw2 := hw1.tr hb2
  have hx2 := hx1.trans (hb2.mono hz1)
  have hz2 := hb2.size
  clear hb2
  obtain ⟨y0, y1, y2, y3, y4, y5, y6⟩ := HFX.out w2 hw2 hx2
  go_wp2_with fail
  refine (CS w2).mono ?_
  clear CS y0 y1 y2 y3 y4 y5 y6
  rintro en w3 ⟨rfl, hb3⟩
  rw [gs]
  have hw3 := hw2.tr hb3
  have hx3 := hx2.trans (hb3.mono (by omega))
  have hz3 := hb3.size
  clear hb3
  obtain ⟨y0, y1, y2, y3, y4, y5, y6⟩ := HFX.out w3 hw3 hx3
  go_wp2_with fail
  go_ret
  refine ⟨?_, hw3⟩
  have hbad : eventB e = false := Bool.eq_false_iff.2 fun h => by
   have h := eventB_iff.1 h
   have := HG.out.2; omega
  rw [hbad]
  exact GotEnc.no rfl
 ·exfalso
  rw [eventB_iff.2 ⟨g.1, by have := g.2; omega, by have := g.2; omega, by have := g.2; omega, g.2.2.2.2.1, g.2.2.2.2.2.1, by have := g.2; omega, by have := g.2; omega⟩] at hbb
  cases hbb
end Go.Proofs.YtcmjgghkmdbphaaGreatDoor
