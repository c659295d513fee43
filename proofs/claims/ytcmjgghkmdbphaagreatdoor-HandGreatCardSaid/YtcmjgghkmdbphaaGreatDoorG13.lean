/- An owned slice, one cell of one element set; a held batch in memory of its own. state.May. table.whole. -/
import Derived.Test.YtcmjgghkmdbphaaGreatDoorG08
import Derived.Test.YtcmjgghkmdbphaaGreatDoorG02
import Derived.Test.YtcmjgghkmdbphaaGreatDoorG12
import Derived.Test.YtcmjgghkmdbphaaGreatDoorG09
import Derived.Test.YtcmjgghkmdbphaaGreatDoorG05
import Derived.Test.YtcmjgghkmdbphaaGreatDoorG10
set_option maxRecDepth 20000
set_option maxHeartbeats 25600000
namespace Go.Proofs.YtcmjgghkmdbphaaGreatDoor
open Go.RowKit
theorem flatten_set {s k j : Nat} {u : Value} : ∀ {css : List (List Value)}, (∀ cs ∈ css, cs.length = s) → ∀ {cs}, css[k]? = some cs → j < s → (css.set k (cs.set j u)).flatten = css.flatten.set (k * s + j) u := by
 induction k with
 | zero =>
   intro css h cs hk hj
   cases css with
   | nil => cases hk
   | cons c r =>
     simp at hk; subst hk
     have := h c (by simp)
     simp only [List.set_cons_zero, List.flatten_cons, Nat.zero_mul, Nat.zero_add]
     rw [List.set_append_left _ _ (by omega)]
 | succ k ih =>
   intro css h cs hk hj
   cases css with
   | nil => cases hk
   | cons c r =>
     simp only [List.getElem?_cons_succ] at hk
     have h1 := h c (by simp)
     simp only [List.set_cons_succ, List.flatten_cons]
     rw [ih (fun cs hc => h cs (by simp [hc])) hk hj, List.set_append_right _ _ (by rw [h1, Nat.succ_mul]; omega)]
     congr 2
     rw [h1, Nat.succ_mul]; omega
section
variable {α : Type} {R : Rep α} {w : World} {B e : Nat} {S : Nat → Prop} {v : Value} {l : List α}
theorem Rep.Own.set_ {k j : Nat} {u : Value} {a a' : α} (h : R.Own w B e S v l) (hk : l[k]? = some a) (hj : j < R.size) (_hu : u.oneCell' = true)
 (hrep : ∀ cs, R.rep w (fun g => S g ∧ some g ≠ v.ownBlock) cs a → R.rep w (fun g => S g ∧ some g ≠ v.ownBlock) (cs.set j u) a') :
 ∃ g c, v = .slice (some ⟨g, 0, none⟩) l.length c ∧ B ≤ g ∧ g < w.heap.size ∧ l.length ≤ c ∧ R.Own (w.setCell ⟨g, k * R.size + j, none⟩ u) B e S v (l.set k a') ∧ w.frozen? ⟨g, k * R.size + j, none⟩ = false ∧ (∃ x, w.cell? ⟨g, k * R.size + j, none⟩ = some x) := by
 obtain ⟨xs, ⟨h1, h2⟩, css, rfl, h3, h4⟩ := h
 have hkl := (List.getElem?_eq_some_iff.1 hk).1
 rcases h2 with ⟨_, h2⟩ | ⟨g, cap, cur, rfl, hB, hg, hn, hc, hs, ht⟩
 ·rw [h2] at hkl; omega
 ·have hgl := (Array.getElem?_eq_some_iff.1 hg).1
  have hsub : ∀ cs ∈ css, cs.length = R.size := fun cs hcs => by
   obtain ⟨i, hi⟩ := List.getElem?_of_mem hcs
   have hil : i < l.length := by have := (List.getElem?_eq_some_iff.1 hi).1; omega
   exact R.len (h4 i cs _ hi (jg hil))
  have hkc : k < css.length := by omega
  have hck := jg hkc
  have hrk := h4 k _ a hck hk
  have hidx : k * R.size + j < l.length * R.size := by
   have : (k + 1) * R.size ≤ l.length * R.size := Nat.mul_le_mul_right _ hkl
   rw [Nat.succ_mul] at this; omega
  have hcs : l.length * R.size ≤ cap * R.size := Nat.mul_le_mul_right _ hn
  have hin : k * R.size + j < cur.size := by rw [hs]; omega
  have hcell : w.cell? ⟨g, k * R.size + j, none⟩ = some cur[k * R.size + j] := by
   unfold World.cell?
   simp [hg, hin]
  have hB0 : Blk w g e cur.toList := by unfold Blk; simpa using hg
  have hset : (w.setCell ⟨g, k * R.size + j, none⟩ u).heap[g]? = some (.cells (cur.toList.set (k * R.size + j) u).toArray e (0, 0)) := hB0.set_ (k * R.size + j) u
  have hsame : Same (fun k => S k ∧ some k ≠ (Value.slice (some ⟨g, 0, none⟩) l.length cap).ownBlock) w (w.setCell ⟨g, k * R.size + j, none⟩ u) := Same.set_ (fun q => q.2 rfl) u
  refine ⟨g, cap, rfl, hB, hgl, hn, ⟨(css.set k ((css[k]).set j u)).flatten, ⟨?_, ?_⟩, css.set k ((css[k]).set j u), rfl, by simp [h3], fun i cs b hi hb => ?_⟩, ?_, ⟨_, hcell⟩⟩
  ·rw [flatten_set hsub hck hj, List.length_set, h1, List.length_set]
  ·refine .inr ⟨g, cap, (cur.toList.set (k * R.size + j) u).toArray, by rw [List.length_set], hB, hset, by rw [List.length_set]; exact hn, hc, by simp [hs], ?_⟩
   rw [flatten_set hsub hck hj, ← ht, List.length_set]
   show (cur.toList.set _ u).take _ = _
   rw [List.take_set]
  ·by_cases hik : i = k
   ·subst hik
    rw [List.getElem?_set_self hkc] at hi
    rw [List.getElem?_set_self hkl] at hb
    injection hi with hi; injection hb with hb
    subst hi hb
    have := R.same (hrep _ hrk) hsame
    exact this
   ·rw [List.getElem?_set_ne (fun q => hik q.symm)] at hi hb
    have := R.same (h4 i cs b hi hb) hsame
    exact this
  ·unfold World.frozen?
   simp [hg]
theorem Rep.Own.at0 {A : Option Addr} {n c : Nat} (h : R.Own w B e S (.slice A n c) l) (hl : 0 < l.length) : ∃ g, A = some ⟨g, 0, none⟩ ∧ B ≤ g ∧ g < w.heap.size := by
 obtain ⟨xs, ⟨_, h2⟩, _⟩ := h
 rcases h2 with ⟨_, h2⟩ | ⟨g, cap, cur, hv, hB, hg, _⟩
 ·omega
 ·injection hv with hv
  exact ⟨g, hv, hB, (Array.getElem?_eq_some_iff.1 hg).1⟩
end
def MixR (N : Nat) : Rep (Put × Bool) where
 size := 3
 rep w P cs x := PutR.rep w (fun g => P g ∧ (x.2 = true → N ≤ g)) cs x.1
 pos := by decide
 len h := PutR.len h
 one h := PutR.one h
 same h hs := PutR.same h fun g hg hl => hs g hg.1 hl
 mono h hs := PutR.mono h fun g hg hl => ⟨hs g hg.1 hl, hg.2⟩
def flags (l : List Put) (k : Nat) : List (Put × Bool) := (l.take k).map (fun p => (p, true)) ++ (l.drop k).map fun p => (p, false)
theorem flags_len (l : List Put) (k : Nat) : (flags l k).length = l.length := by simp [flags]; omega
theorem flags_at {l : List Put} {k : Nat} (h : k < l.length) : (flags l k)[k]? = some (l[k], false) := by
 unfold flags
 rw [List.getElem?_append_right (by simp; exact Nat.min_le_left _ _)]
 simp [Nat.min_eq_left (Nat.le_of_lt h), h]
theorem flags_set {l : List Put} {k : Nat} (h : k < l.length) : (flags l k).set k (l[k], true) = flags l (k + 1) := by
 unfold flags
 rw [List.drop_eq_getElem_cons h, take_snoc l k h, List.map_append, List.map_cons, List.set_append_right _ _ (by simp; exact Nat.min_le_left _ _)]
 simp [Nat.min_eq_left (Nat.le_of_lt h)]
section
variable {w : World} {B e N : Nat} {S : Nat → Prop} {v : Value} {l : List Put}
theorem MixR.start (h : PutR.Own w B e S v l) : (MixR N).Own w B e S v (flags l 0) := by
 obtain ⟨xs, h1, css, hx, hc, hr⟩ := h
 refine ⟨xs, by rw [flags_len]; exact h1, css, hx, by rw [flags_len]; exact hc, fun i cs a hi ha => ?_⟩
 have : flags l 0 = l.map fun p => (p, false) := by simp [flags]
 rw [this, List.getElem?_map] at ha
 obtain ⟨p, hp, rfl⟩ := Option.map_eq_some_iff.1 ha
 exact PutR.mono (hr i cs p hi hp) fun g hg _ => ⟨hg, fun q => by cases q⟩
theorem MixR.stop_ (h : (MixR N).Own w B e S v (flags l l.length)) : PutR.Own w B e (fun g => S g ∧ N ≤ g) v l := by
 obtain ⟨xs, h1, css, hx, hc, hr⟩ := h
 rw [flags_len] at h1 hc
 refine ⟨xs, h1, css, hx, hc, fun i cs a hi ha => ?_⟩
 have : flags l l.length = l.map fun p => (p, true) := by simp [flags]
 have := hr i cs (a, true) hi (by rw [this, List.getElem?_map, ha]; rfl)
 exact PutR.mono this fun g hg _ => ⟨⟨hg.1.1, hg.2 rfl⟩, hg.1.2⟩
end
def GotHeld (h : Held) (N : Nat) (e : Ending) (w' : World) : Prop := ∃ pA pc fA fc, e = .returned (.agg (h.cellsV pA pc fA fc).toArray) ∧ (h.batch.puts.length ≤ pc ∧ pc ≤ 9223372036854775807 ∧ PutR.Row w' (fun g => N ≤ g) pA h.batch.puts) ∧ (h.firsts.length ≤ fc ∧ fc ≤ 9223372036854775807 ∧ IntR.Row w' (fun g => N ≤ g) fA h.firsts)
def Held.zeros : List Value := [.int .i64 0, .int .i64 0, .int .i64 0, .string ⟨#[]⟩, .slice none 0 0, .int .i64 0, .int .i64 0, .int .i64 0, .slice none 0 0]
theorem own_any (h : Held) (pA fA : Option Addr) (pc fc : Nat) (Q : Nat → Prop) (w : World) (hrP : PutR.Row w Q pA h.batch.puts) (hrF : IntR.Row w Q fA h.firsts) (hl : h.batch.puts.length ≤ 1000000) (hd : ∀ p ∈ h.batch.puts, p.data.length ≤ 1000000) (hf : h.firsts.length ≤ 1000000) :
 Calls Tryz.prog 133 #[.agg (h.cellsV pA pc fA fc).toArray] w fun e w' => GotHeld h w.heap.size e w' ∧ Below w.heap.size w w' := by
 have hb1 := ((jb w.heap.size w).al (.cells (h.cellsV pA pc fA fc).toArray 192)).al (.cells Held.zeros.toArray 192)
 have B0 := (Blk.new w 192 (h.cellsV pA pc fA fc)).alloc (.cells Held.zeros.toArray 192)
 have B1 := Blk.new1 w (.cells (h.cellsV pA pc fA fc).toArray 192) 192 Held.zeros
 have hs1 : ((w.alloc (.cells (h.cellsV pA pc fA fc).toArray 192)).alloc (.cells Held.zeros.toArray 192)).heap.size = w.heap.size + 2 := by simp
 have HR := jh (ja (hrP.mono (Q := fun g => Q g ∧ g < w.heap.size) fun g a b => ⟨a, b⟩) (ja (hrF.mono (Q := fun g => Q g ∧ g < w.heap.size) fun g a b => ⟨a, b⟩) (ja hl (ja hd hf))))
 clear hrP hrF hl hd hf
 go_enter Tryz.func133, Tryz.ntmps133
 go_upto_region 1 with fail
 refine forget (M := fun W => Code.wp _ _ _ _ W) (fun W => Below w.heap.size w W ∧ Blk W w.heap.size 192 (h.cellsV pA pc fA fc) ∧ Blk W (w.heap.size + 1) 192 Held.zeros ∧ W.heap.size = w.heap.size + 2) ⟨hb1, B0, B1, hs1⟩ ?_
 clear B0 B1 hb1 hs1
 rintro w1 ⟨hb1, B0, B1, hs1⟩
 have C1 := clone_Put pA pc h.batch.puts (fun g => Q g ∧ g < w.heap.size) w1 (HR.out.1.ext hb1) (by have := HR.out.2.2.1; omega)
 unfold GotOwn at C1
 have x4 : w1.cell? ⟨w.heap.size, 4, none⟩ = some (.slice pA h.batch.puts.length pc) := B0.cell 4
 have x4f : w1.frozen? ⟨w.heap.size, 4, none⟩ = false := B0.frozen 4
 have H1 := jh (ja hb1 (ja B0 (ja B1 hs1)))
 clear B0 B1 hb1 hs1
 go_wp2_with fail
 refine C1.mono ?_
 clear C1 x4 x4f
 rintro e w2 ⟨⟨v2, rfl, hv2⟩, hb2⟩
 obtain ⟨A2, c9, rfl, hc2, hc2m⟩ := hv2.form
 have x4 : w2.cell? ⟨w.heap.size, 4, none⟩ = some (.slice pA h.batch.puts.length pc) := (H1.out.2.1.ext hb2).cell 4
 have x4f : w2.frozen? ⟨w.heap.size, 4, none⟩ = false := (H1.out.2.1.ext hb2).frozen 4
 go_upto_region 2 with fail
 have hz1 := H1.out.2.2.2
 have hz2 := hb2.size
 have B3 : Blk (w2.setCell ⟨w.heap.size, 4, none⟩ (.slice A2 h.batch.puts.length c9)) w.heap.size 192 (h.cellsV A2 c9 fA fc) := (H1.out.2.1.ext hb2).set_ 4 (.slice A2 h.batch.puts.length c9)
 have O3 : Only (· = w.heap.size) w2 (w2.setCell ⟨w.heap.size, 4, none⟩ (.slice A2 h.batch.puts.length c9)) := Only.set_ (F := (· = w.heap.size)) rfl _
 have B13 := (H1.out.2.2.1.ext hb2).only O3 (fun e => by have : w.heap.size + 1 = w.heap.size := e; omega)
 have hv3 := (hv2.only O3 (fun g hg e => by have e' : g = w.heap.size := e; omega) (fun g hg e => by have e' : g = w.heap.size := e; have := (hv2.lt g hg).1; omega))
 have hm3 := MixR.start (N := w.heap.size) hv3
 have hw3 : Below w.heap.size w (w2.setCell ⟨w.heap.size, 4, none⟩ (.slice A2 h.batch.puts.length c9)) := (H1.out.1.tr hb2).trans (O3.low (fun g hg => by rw [hg]; omega) (by omega))
 have hrF := HR.out.2.1.ext hw3
 generalize hwo : (w2.setCell ⟨w.heap.size, 4, none⟩ (.slice A2 h.batch.puts.length c9)) = w3 at *
 have hz3 : w3.heap.size = w2.heap.size := by rw [← hwo]; simp
 clear hwo x4 x4f hv2 hv3 hb2 O3
 have x4 : w3.cell? ⟨w.heap.size, 4, none⟩ = some (.slice A2 h.batch.puts.length c9) := B3.cell 4
 have H3 := jh (ja B3 (ja B13 (ja hw3 hrF)))
 have HM3 := jh hm3
 clear B3 B13 hw3 hrF hm3
 go_wp2_with fail
 clear x4
 go_loopw [14] (fun i wr => ∃ k : Nat, k ≤ h.batch.puts.length ∧ i = .int .i64 k ∧ (MixR w.heap.size).Own wr w1.heap.size 69 (fun g => w1.heap.size ≤ g ∨ (Q g ∧ g < w.heap.size)) (.slice A2 h.batch.puts.length c9) (flags h.batch.puts k) ∧ Only (fun g => w1.heap.size ≤ g) w3 wr) (fun i _ => h.batch.puts.length - (intOf i).toNat)
 case atStart => exact ⟨0, Nat.zero_le _, rfl, HM3.out, Only.refl _ _⟩
 case round =>
  obtain ⟨k, hkl, rfl, hm, hO⟩ := hrel
  have hzr := hO.size
  by_cases hlt : k < h.batch.puts.length
  ·have hlk := jg hlt
   have hfa := flags_at hlt
   have hfs := flags_set hlt
   have hdk := HR.out.2.2.2.1 _ (List.getElem_mem hlt)
   generalize h.batch.puts[k] = p at hlk hfa hfs hdk
   obtain ⟨g2, rfl, hg2, hg2l⟩ := hm.at0 (by rw [flags_len]; omega)
   obtain ⟨bb, o, cs, hAe, hP, hbw, hrep, hcs⟩ := (hm.row (fun g hg => .inl hg)).at_ hfa
   injection hAe with hAe
   injection hAe with e1 e2
   subst e1 e2
   obtain ⟨Ad, cd, rfl, _, _, hcd, hcdm, hrd⟩ := put_rep.1 hrep
   have hsz : (MixR w.heap.size).size = 3 := rfl
   have c2 := hcs 2 _ rfl
   rw [hsz, Nat.zero_add] at c2
   have B3r := H3.out.1.only hO (fun e => by have : w1.heap.size ≤ w.heap.size := e; omega)
   have y4 := On.cell (B3r.cell 4 : wr.cell? ⟨w.heap.size, 4, none⟩ = some (.slice (some ⟨g2, 0, none⟩) h.batch.puts.length c9))
   have yc := On.cell c2
   have hlt' : (k : Int) < h.batch.puts.length := by omega
   have HM := jh (ja hm (ja hO (ja hfa (ja hfs hrd))))
   clear hm hO hrep hcs hP hbw hfa hfs hlk hrd
   go_upto_region 5 with fail
   refine wp_region_mix (.seg [0, 1, 2, 3, 4, 5, 6, 7, 8, 9, 10] 11 (.seg [] 12 (.last [13] 14))) (fun w' => ∃ d : Wd (On wr), w' = d.w) (by kernel_rfl) (by kernel_rfl) (fun _ _ d _ _ h => by cases d <;> exact h) (ClsW.mk (jb _ _).drew) ?_
   unfold wpMix; simp only [pick, j1, j2, j3, j4]
   (repeat (show wpQuiet _ _ _ _ (_ :: _) _; go_big_quiet_step (fail))); refine qn ?_
   go_wp2_with fail
   have hbd : Below wr.heap.size wr wr.drew := (jb _ _).drew
   refine (clone_string Ad cd p.data _ wr.drew (HM.out.2.2.2.2.ext hbd) (by omega)).mono ?_
   rintro e w6 ⟨⟨v6, rfl, hv6⟩, hb6⟩
   obtain ⟨A6, c6, rfl, hc6, hc6m⟩ := hv6.form
   go_wp2_with fail
   have hm6 := (HM.out.1.ext hbd).ext hb6
   have row6 := hv6.row' (P := fun g => wr.drew.heap.size ≤ g) str_plain (fun g hg => (hv6.lt g hg).1)
   have hzd : wr.drew.heap.size = wr.heap.size := rfl
   obtain ⟨g3, c3, hv3, hB3, hg3, hn3, hm7, hfz, x, hx⟩ := hm6.set_ (k := k) (j := 2) (u := .slice A6 p.data.length c6) (a' := (p, true)) HM.out.2.2.1 (by rw [hsz]; omega) rfl (fun cs hcs => by
    obtain ⟨A', c', rfl, q1, q2, _, _, _⟩ := put_rep.1 hcs
    exact put_rep.2 ⟨A6, c6, rfl, q1, q2, hc6, hc6m, row6.mono fun g h1 _ => ⟨⟨.inl (by omega), fun e => by
     have e' : g = g2 := by simpa [Value.ownBlock] using e
     omega⟩, fun _ => by omega⟩⟩)
   have hg23 : g2 = g3 := by
    injection hv3 with hv3
    injection hv3 with hv3
    injection hv3 with hv3
   subst hg23
   clear hv3
   rw [hsz] at hm7 hfz hx
   rw [HM.out.2.2.2.1] at hm7
   have O7 : Only (fun g => w1.heap.size ≤ g) w6 (w6.setCell ⟨g2, k * 3 + 2, none⟩ (.slice A6 p.data.length c6)) := Only.set_ (F := fun g => w1.heap.size ≤ g) hg2 _
   have HM7 := jh (ja hm7 (((HM.out.2.1.tr (jo hbd)).tr (jo hb6)).tr O7))
   clear hm6 row6 hm7 O7 hv6
   dsimp only [wpList, SegQ]
   refine ⟨fun w' => ∃ d : Wd (On wr), w' = d.w, ClsW.mk (hbd.tr hb6), fun _ h => h, ?_⟩
   unfold wpMix; simp only [pick, j1, j2, j3, j4]
   (repeat (show wpQuiet _ _ _ _ (_ :: _) _; go_big_quiet_step (fail))); refine qn ?_
   go_wp2_with fail
   dsimp only [wpList, SegQ]
   refine ⟨fun w' => ∃ d : Wd (On wr), w' = d.w, ClsW.mk (hbd.tr hb6), fun _ h => h, ?_⟩
   unfold wpMix; simp only [pick, j1, j2, j3, j4]
   (repeat (show wpQuiet _ _ _ _ (_ :: _) _; go_big_quiet_step (fail))); refine qn ?_
   go_wp2_with fail
   dsimp only [wpList, SegQ]
   go_wp2_with fail
   go_round
   case rel => exact ⟨k + 1, by omega, by go_num, HM7.out.1, HM7.out.2⟩
   case measure => simp [intOf]; omega
  ·have hkn : k = h.batch.puts.length := by omega
   subst hkn
   have hO1 := jh (MixR.stop_ hm)
   have B3r := H3.out.1.only hO (fun e => by have : w1.heap.size ≤ w.heap.size := e; omega)
   have B13r := H3.out.2.1.only hO (fun e => by have : w1.heap.size ≤ w.heap.size + 1 := e; omega)
   have hrFr := H3.out.2.2.2.same (Same.of_only hO fun g hg e => by have := hg.2; omega) hO.size
   have hwr : Below w.heap.size w wr := H3.out.2.2.1.trans (hO.low (fun g hg => by omega) (by omega))
   have y8 : wr.cell? ⟨w.heap.size, 8, none⟩ = some (.slice fA h.firsts.length fc) := B3r.cell 8
   have HB := jh (ja B3r (ja B13r hwr))
   have C8 := clone_int fA fc h.firsts _ wr hrFr (by have := HR.out.2.2.2.2; omega)
   unfold GotOwn at C8
   clear hm hO B3r B13r hrFr hwr
   go_wp2_with fail
   refine C8.mono ?_
   clear C8 y8
   rintro e w8 ⟨⟨v8, rfl, hv8⟩, hb8⟩
   obtain ⟨A8, c8, rfl, hc8, hc8m⟩ := hv8.form
   have hz8 := hb8.size
   have B8 := HB.out.1.ext hb8
   have B18 := HB.out.2.1.ext hb8
   have x8 : w8.cell? ⟨w.heap.size, 8, none⟩ = some (.slice fA h.firsts.length fc) := B8.cell 8
   have x8f : w8.frozen? ⟨w.heap.size, 8, none⟩ = false := B8.frozen 8
   go_upto_region 8 with fail
   have B9 : Blk (w8.setCell ⟨w.heap.size, 8, none⟩ (.slice A8 h.firsts.length c8)) w.heap.size 192 (h.cellsV A2 c9 A8 c8) := B8.set_ 8 (.slice A8 h.firsts.length c8)
   have O9 : Only (fun g => g = w.heap.size ∨ g = w.heap.size + 1) w8 (w8.setCell ⟨w.heap.size, 8, none⟩ (.slice A8 h.firsts.length c8)) := Only.set_ (F := fun g => g = w.heap.size ∨ g = w.heap.size + 1) (.inl rfl) _
   have B19 := B18.far (p := ⟨w.heap.size, 8, none⟩) (show w.heap.size + 1 ≠ w.heap.size by omega) (.slice A8 h.firsts.length c8)
   generalize hw9 : w8.setCell ⟨w.heap.size, 8, none⟩ (.slice A8 h.firsts.length c8) = w9 at *
   clear hw9 x8 x8f B8 B18
   go_wp2_with (first
    | ((with_reducible refine wpList_load_blk rfl rfl ?_ B9 Tryz.underlying192 rfl (by kernel_rfl) ?_); · rfl)
    | (refine wpList_store_blk (cs := h.cellsV A2 c9 A8 c8) rfl rfl rfl rfl rfl B19 (by kernel_rfl) rfl (by simp [Held.cellsV, Value.oneCell']) ?_; intro w10 hB10 hO10 hz10)
    | fail)
   have hz9 := O9.size
   have O10 := O9.tr (hO10.mono (fun g hg => .inr hg))
   have hw10 : Below w.heap.size w w10 := (HB.out.2.2.tr hb8).trans (O10.low (fun g hg => by omega) (by have := HB.out.2.2.size; omega))
   have hP10 := (hO1.out.ext hb8).only O10 (fun g hg e => by
    rcases hg.1 with h1 | h1
    ·omega
    ·have := h1.2; omega) (fun g hg e => by have := (hO1.out.lt g hg).1; omega)
   have hF10 := hv8.only O10 (fun g hg e => by
    rcases hg with h1 | h1
    ·omega
    ·have := h1.2; omega) (fun g hg e => by have := (hv8.lt g hg).1; omega)
   exact bodyPost_blk rfl hB10 rfl Tryz.underlying192 rfl (by kernel_rfl) rfl ⟨⟨A2, c9, A8, c8, rfl, ⟨hc2, hc2m, (hP10.row (fun g hg => ⟨.inl hg, by omega⟩)).mono fun g hg _ => hg.2⟩, ⟨hc8, hc8m, hF10.row' int_plain fun g hg => by have := (hv8.lt g hg).1; omega⟩⟩, hw10⟩
end Go.Proofs.YtcmjgghkmdbphaaGreatDoor
namespace Go.Proofs.YtcmjgghkmdbphaaGreatDoor
open Go.RowKit
theorem mayP_drop (s : St) (l : List Put) (k : Nat) (h : k < l.length) : mayP s (l.drop k) = if servesS s l[k].stream = false then 8 else if busyS s l[k].stream then 11 else mayP s (l.drop (k + 1)) := by
 rw [List.drop_eq_getElem_cons h]; rfl
theorem mayV_drop (T : Tab) (l : List Put) (k : Nat) (f : List Int) (h : k < l.length) : mayV T (l.drop k) f = if l[k].expect ≠ -1 ∧ l[k].expect ≠ versionT T l[k].stream then ([], zeroKnown, 5) else mayV T (l.drop (k + 1)) (f ++ [versionT T l[k].stream + 1]) := by
 rw [List.drop_eq_getElem_cons h]; rfl
structure Seen (g : Nat) (s : St) (w : World) : Prop where
 self : s.self ≠ 0
 ring : s.ring.length ≤ 1000000
 vers : ∀ n, 0 ≤ versionT s.table n ∧ versionT s.table n ≤ 40000
 fits : ∀ n k, (knownT s.table n k).1.fit
 busy : BusyOk g s w
theorem Seen.ext {g : Nat} {s : St} {w w' : World} (h : Seen g s w) (hb : Below w.heap.size w w') : Seen g s w' := { h with busy := h.busy.ext hb }
theorem may_any' (g : Nat) (s : St) (b : Batch) (A : Option Addr) (c : Nat) (P Q : Nat → Prop) (w : World) (h : StAt w P g s) (hS : Seen g s w) (hr : PutR.Row w Q A b.puts) (hl : b.puts.length ≤ 1000000) (hk : sfit b.key) (hd : ∀ p ∈ b.puts, p.data.length ≤ 1000000) (hT : Tabs w) (h2 : 2 ≤ w.heap.size) :
 Calls Tryz.prog 21 #[ptrV g, .agg #[.string b.key, .slice A b.puts.length c]] w fun e w' => Got3 w.heap.size (mayS s b) e w' ∧ Below w.heap.size w w' := by
 have HR := jh (hr.mono (Q := fun g => g < w.heap.size) fun g _ h => h)
 have HS := jh (ja h hS)
 have HM := jh (show mayS s b = if checkB b ≠ 0 then ([], zeroKnown, checkB b) else if mayP s b.puts ≠ 0 then ([], zeroKnown, mayP s b.puts) else if (knownS s b).2.2 ≠ 0 then knownS s b else mayV s.table b.puts [] from rfl)
 obtain ⟨v, hB, hI⟩ := h
 have HB := jh (ja hB hI)
 have hb1 := ((jb w.heap.size w).al (.cells #[.string b.key, .slice A b.puts.length c] 25)).al (.cells zeroKnown.cells.toArray 49)
 have B0 := (Blk.new w 25 [.string b.key, .slice A b.puts.length c]).alloc (.cells zeroKnown.cells.toArray 49)
 have B1 := Blk.new1 w (.cells #[.string b.key, .slice A b.puts.length c] 25) 49 zeroKnown.cells
 have hs1 : ((w.alloc (.cells #[.string b.key, .slice A b.puts.length c] 25)).alloc (.cells zeroKnown.cells.toArray 49)).heap.size = w.heap.size + 2 := by simp
 have CC := jh (fun W (hb : Below w.heap.size w W) => check_any b A c Q W (hr.ext hb) hl hk hd (hT.below hb) (by have := hb.size; omega))
 clear hr hd hB hI
 unfold ptrV
 go_enter Tryz.func21, Tryz.ntmps21
 go_upto_region 1 with fail
 refine forget (M := fun W => Code.wp _ _ _ _ W) (fun W => Below w.heap.size w W ∧ Blk W w.heap.size 25 [.string b.key, .slice A b.puts.length c] ∧ Blk W (w.heap.size + 1) 49 zeroKnown.cells ∧ W.heap.size = w.heap.size + 2) ⟨hb1, B0, B1, hs1⟩ ?_
 clear B0 B1 hb1 hs1
 rintro w1 ⟨hb1, B0, B1, hs1⟩
 have C1 := gone_any g s.self w1 ((HB.out.1.ext hb1).cell 0) hS.self
 unfold ptrV at C1
 have x0 : w1.cell? ⟨w.heap.size, 0, none⟩ = some (.string b.key) := B0.cell 0
 have x1 : w1.cell? ⟨w.heap.size, 1, none⟩ = some (.slice A b.puts.length c) := B0.cell 1
 have HB1 := jh (ja B0 (ja B1 hs1))
 have CC1 := CC.out w1 hb1
 clear B0 B1 hs1 hS
 go_wp2_with fail
 refine C1.mono ?_
 clear C1
 rintro e w' ⟨rfl, rfl⟩
 go_wp2_with fail
 refine CC1.mono ?_
 clear CC1 x0 x1
 rintro e w2 ⟨rfl, hb2⟩
 have hz2 := hb2.size
 have hw2 := hb1.tr hb2
 have HB2 := jh (ja (HB1.out.1.ext hb2) (HB1.out.2.1.ext hb2))
 have hzz : w.heap.size + 2 ≤ w2.heap.size := by have := HB1.out.2.2; omega
 by_cases hc : checkB b = 0
 ·have HC := jh hc
  have HG := jh (checkB_good hc)
  rw [hc]
  clear hc
  have x1 : w2.cell? ⟨w.heap.size, 1, none⟩ = some (.slice A b.puts.length c) := HB2.out.1.cell 1
  go_wp2_with fail
  clear x1
  go_loopw [4, 28] (fun fv i wr => ∃ k : Nat, k ≤ b.puts.length ∧ i = .int .i64 k ∧ fv = .slice none 0 0 ∧ mayP s (b.puts.drop k) = mayP s b.puts ∧ Below w2.heap.size w2 wr) (fun _ i _ => b.puts.length - (intOf i).toNat)
  case atStart => exact ⟨0, Nat.zero_le _, rfl, rfl, rfl, jb _ _⟩
  case round =>
   obtain ⟨k, hkl, rfl, rfl, hmp, hbl⟩ := hrel
   have hlo := hw2.tr (hbl.mono (Nat.le_refl _))
   have HMP := jh hmp
   clear hmp
   have hzr := hbl.size
   by_cases hlt : k < b.puts.length
   ·have hlk := jg hlt
    have hmd := mayP_drop s b.puts k hlt
    have hgd := HG.out.puts _ (List.getElem_mem hlt)
    obtain ⟨bb, o, cs, hAe, hP, hbw, hrep, hcs⟩ := (HR.out.ext hlo).at_ hlk
    generalize b.puts[k] = p at hlk hmd hrep hgd
    subst hAe
    obtain ⟨Ad, cd, rfl, hps, _, _, _, _⟩ := put_rep.1 hrep
    have c0 := hcs 0 _ rfl; have c1 := hcs 1 _ rfl; have c2 := hcs 2 _ rfl; simp only [PutR_size, Nat.add_zero] at c0 c1 c2
    have hlt' : (k : Int) < b.puts.length := by omega
    have hbx := hlo.al (.cells #[.string p.stream, .int .i64 p.expect, .slice Ad p.data.length cd] 69)
    have hbx2 := hbl.al (.cells #[.string p.stream, .int .i64 p.expect, .slice Ad p.data.length cd] 69)
    have BP := Blk.new wr 69 [.string p.stream, .int .i64 p.expect, .slice Ad p.data.length cd]
    have HBP := jh BP
    have C1 := serves_any g s p.stream P _ (⟨v, (HB.out.1.ext hbx), HB.out.2.same (js hbx)⟩ : StAt (wr.alloc (.cells #[.string p.stream, .int .i64 p.expect, .slice Ad p.data.length cd] 69)) P g s) HS.out.2.ring hps
    have C2 := jh (fun W (hW : Below w.heap.size w W) => HS.out.2.busy p.stream W hps hW)
    unfold ptrV at C1 C2
    have HMD := jh hmd
    clear hmd hcs hrep hlk hgd hP hbw BP
    go_wp2_with fail
    refine C1.mono ?_
    clear C1 c0 c1 c2
    cases hq : servesS s p.stream
    ·have HQ := jh hq
     rintro e w3 ⟨rfl, hb3⟩
     clear hq
     have hw3 := hbx.tr hb3
     have hw32 := hbx2.tr hb3
     go_wp2_with (first
      | (refine wpList_store_blk (cs := zeroKnown.cells) rfl rfl rfl rfl rfl (HB2.out.2.ext hw32) (by kernel_rfl) rfl (by simp [zeroKnown, zeroStamp, Known.cells, Value.oneCell']) ?_; intro w8 hB8 hO8 hz8)
      | fail)
     rw [show mayS s b = ([], zeroKnown, 8) from by
      have h8 : mayP s b.puts = 8 := by rw [← HMP.out, HMD.out, if_pos HQ.out]
      rw [HM.out, if_neg (by rw [HC.out]; simp), h8, if_pos (by decide)]]
     exact bodyPost_ret (results_mid rfl _ hB8 (by rfl) Tryz.underlying49 rfl (by kernel_rfl)) rfl ⟨⟨_, rfl, Rep.Own.nil_⟩, hw3.trans (hO8.low (fun g hg => by have : g = w.heap.size + 1 := hg; omega) hw3.size)⟩
    ·have HQ := jh hq
     rintro e w3 ⟨rfl, hb3⟩
     clear hq
     have hw3 := hbx.tr hb3
     have hw32 := hbx2.tr hb3
     have c0 : w3.cell? ⟨wr.heap.size, 0, none⟩ = some (.string p.stream) := (HBP.out.ext hb3).cell 0
     have C3 := C2.out w3 hw3
     clear C2
     go_wp2_with fail
     refine C3.mono ?_
     clear C3 c0
     cases hq : busyS s p.stream
     ·have HQ2 := jh hq
      rintro e w4 ⟨rfl, hb4⟩
      clear hq
      go_wp2_with fail
      go_round
      case rel =>
       refine ⟨k + 1, by omega, by go_num, rfl, ?_, hw32.tr hb4⟩
       rw [← HMP.out, HMD.out, if_neg (by rw [HQ.out]; simp), if_neg (by rw [HQ2.out]; simp)]
      case measure => simp [intOf]; omega
     ·have HQ2 := jh hq
      rintro e w4 ⟨rfl, hb4⟩
      clear hq
      have hw4 := hw3.tr hb4
      have hw42 := hw32.tr hb4
      go_wp2_with (first
       | (refine wpList_store_blk (cs := zeroKnown.cells) rfl rfl rfl rfl rfl (HB2.out.2.ext hw42) (by kernel_rfl) rfl (by simp [zeroKnown, zeroStamp, Known.cells, Value.oneCell']) ?_; intro w8 hB8 hO8 hz8)
       | fail)
      rw [show mayS s b = ([], zeroKnown, 11) from by
       have h8 : mayP s b.puts = 11 := by rw [← HMP.out, HMD.out, if_neg (by rw [HQ.out]; simp), if_pos HQ2.out]
       rw [HM.out, if_neg (by rw [HC.out]; simp), h8, if_pos (by decide)]]
      exact bodyPost_ret (results_mid rfl _ hB8 (by rfl) Tryz.underlying49 rfl (by kernel_rfl)) rfl ⟨⟨_, rfl, Rep.Own.nil_⟩, hw4.trans (hO8.low (fun g hg => by have : g = w.heap.size + 1 := hg; omega) hw4.size)⟩
   ·have hkn : k = b.puts.length := by omega
    subst hkn
    have HP0 := jh (show mayP s b.puts = 0 from by rw [← HMP.out, List.drop_length]; rfl)
    have CK := known_any' g s b A c P (fun g => g < w.heap.size) wr (⟨v, HB.out.1.ext hlo, HB.out.2.same (js hlo)⟩ : StAt wr P g s) (HR.out.ext hlo) HG.out.few HS.out.2.fits
    unfold ptrV Got3 at CK
    have x0 : wr.cell? ⟨w.heap.size, 0, none⟩ = some (.string b.key) := (HB2.out.1.ext hbl).cell 0
    have x1 : wr.cell? ⟨w.heap.size, 1, none⟩ = some (.slice A b.puts.length c) := (HB2.out.1.ext hbl).cell 1
    have HM2 := jh (show mayS s b = if (knownS s b).2.2 ≠ 0 then knownS s b else mayV s.table b.puts [] from by rw [HM.out, if_neg (by rw [HC.out]; simp), if_neg (by rw [HP0.out]; simp)])
    clear HM
    generalize hq3 : knownS s b = q3 at *
    clear hq3
    obtain ⟨fl, kn, code⟩ := q3
    simp only at CK HM2
    go_wp2_with fail
    refine CK.mono ?_
    clear CK x0 x1
    rintro e w3 ⟨⟨vf, rfl, hvf⟩, hb3⟩
    have hlo3 := hlo.tr hb3
    have hbl3 := hbl.tr hb3
    have hb4 := hb3.al (.cells #[.string kn.key, .int .i64 kn.first, .int .i64 kn.stamp.wall, .int .i64 kn.stamp.logic, .int .i64 kn.stamp.node] 49)
    have hlo4 := hlo3.al (.cells #[.string kn.key, .int .i64 kn.first, .int .i64 kn.stamp.wall, .int .i64 kn.stamp.logic, .int .i64 kn.stamp.node] 49)
    have hbl4 := hbl3.al (.cells #[.string kn.key, .int .i64 kn.first, .int .i64 kn.stamp.wall, .int .i64 kn.stamp.logic, .int .i64 kn.stamp.node] 49)
    have BK := Blk.new w3 49 [.string kn.key, .int .i64 kn.first, .int .i64 kn.stamp.wall, .int .i64 kn.stamp.logic, .int .i64 kn.stamp.node]
    have hvf4 := hvf.alloc (.cells #[.string kn.key, .int .i64 kn.first, .int .i64 kn.stamp.wall, .int .i64 kn.stamp.logic, .int .i64 kn.stamp.node] 49)
    have hz3 : w.heap.size + 2 ≤ w3.heap.size := by have := hb3.size; omega
    by_cases hcd : code = 0
    ·have HCD := jh hcd
     rw [hcd]
     clear hcd
     have HL4 := jh (ja hlo4 hbl4)
     have x1 : (w3.alloc (.cells #[.string kn.key, .int .i64 kn.first, .int .i64 kn.stamp.wall, .int .i64 kn.stamp.logic, .int .i64 kn.stamp.node] 49)).cell? ⟨w.heap.size, 1, none⟩ = some (.slice A b.puts.length c) := (HB2.out.1.ext hbl4).cell 1
     clear hb4 BK hvf4 hvf hlo4 hbl4 hb3 hlo3 hbl3
     have hz4 : w.heap.size + 2 ≤ (w3.alloc (.cells #[.string kn.key, .int .i64 kn.first, .int .i64 kn.stamp.wall, .int .i64 kn.stamp.logic, .int .i64 kn.stamp.node] 49)).heap.size := by have := HL4.out.1.size; have := HL4.out.2.size; omega
     have HTAB := jh (fun n W (hW : Below w.heap.size w W) => version_any v.tb s.table n P W ((HB.out.2.same (js hW)).table))
     unfold ptrV at HTAB
     go_upto_region 17 with fail
     generalize (w3.alloc (.cells #[.string kn.key, .int .i64 kn.first, .int .i64 kn.stamp.wall, .int .i64 kn.stamp.logic, .int .i64 kn.stamp.node] 49)) = w4 at *
     go_wp2_with fail
     clear x1
     go_loopw [4, 61] (fun fv i wr => ∃ (k : Nat) (fl2 : List Int), k ≤ b.puts.length ∧ i = .int .i64 k ∧ IntR.Own wr w4.heap.size 3 (fun _ => True) fv fl2 ∧ fl2.length ≤ k ∧ mayV s.table (b.puts.drop k) fl2 = mayV s.table b.puts [] ∧ Below w4.heap.size w4 wr) (fun _ i _ => b.puts.length - (intOf i).toNat)
     case atStart => exact ⟨0, [], Nat.zero_le _, rfl, Rep.Own.nil_, Nat.le_refl _, rfl, jb _ _⟩
     case round =>
      obtain ⟨k, fl2, hkl, rfl, hfo, hfl, hmv, hbl⟩ := hrel
      have HMV := jh hmv
      clear hmv
      have hlo4 := HL4.out.1.tr (hbl.mono (Nat.le_refl _))
      have hzr := hbl.size
      by_cases hlt : k < b.puts.length
      ·have hlk := jg hlt
       have hmd := mayV_drop s.table b.puts k fl2 hlt
       obtain ⟨bb, o, cs, hAe, hP, hbw, hrep, hcs⟩ := (HR.out.ext hlo4).at_ hlk
       generalize b.puts[k] = p at hlk hmd hrep
       subst hAe
       obtain ⟨Ad, cd, rfl, hps, hpe, _, _, _⟩ := put_rep.1 hrep
       have c0 := hcs 0 _ rfl; have c1 := hcs 1 _ rfl; have c2 := hcs 2 _ rfl; simp only [PutR_size, Nat.add_zero] at c0 c1 c2
       have hlt' : (k : Int) < b.puts.length := by omega
       have hb8 := HG.out.few
       have hvv := HS.out.2.vers p.stream
       have HMD := jh hmd
       clear hmd hcs hrep hlk hP hbw
       obtain ⟨Ao, co, hu4, _⟩ := hfo.form
       subst hu4
       go_upto_region 20 with fail
       have hbx := (jb wr.heap.size wr).al (.cells #[.string p.stream, .int .i64 p.expect, .slice Ad p.data.length cd] 69)
       have BP := Blk.new wr 69 [.string p.stream, .int .i64 p.expect, .slice Ad p.data.length cd]
       have hlo5 := hlo4.tr hbx
       have hbl5 := hbl.tr hbx
       have hfo5 := hfo.ext hbx
       have y0 := On.cell (BP.cell 0)
       have y5 := On.cell ((HB.out.1.ext hlo5).cell 5 : _ = some (ptrV v.tb))
       unfold ptrV at y5
       have HBP := jh BP
       clear c0 c1 c2 hbx BP hfo
       generalize (wr.alloc (.cells #[.string p.stream, .int .i64 p.expect, .slice Ad p.data.length cd] 69)) = w5 at *
       have HW5 := jh (ja hlo5 (ja hfo5 hbl5))
       refine wp_region_mix (.seg [0, 1, 2, 3, 4, 5] 6 (.leaf [7])) (fun w' => ∃ d : Wd (On w5), w' = d.w) (by kernel_rfl) (by kernel_rfl) (fun _ _ d _ _ h => by cases d <;> exact h) (ClsW.mk (jb _ _).drew) ?_
       unfold wpMix; simp only [pick, j1, j2, j3, j4]
       (repeat (show wpQuiet _ _ _ _ (_ :: _) _; go_big_quiet_step (fail))); refine qn ?_
       go_wp2_with fail
       refine (HTAB.out p.stream w5.drew hlo5.drew).mono ?_
       rintro e w5' ⟨rfl, rfl⟩
       go_wp2_with fail
       dsimp only [wpList, SegQ]
       refine ⟨fun w' => ∃ d : Wd (On w5), w' = d.w, ClsW.mk (jb _ _).drew, fun _ h => h, ?_⟩
       unfold wpMix; simp only [pick, j1, j2, j3, j4]
       (repeat (show wpQuiet _ _ _ _ (_ :: _) _; go_big_quiet_step (fail))); refine qn ?_
       have hw5d : Below w5.heap.size w5 w5.drew := (jb _ _).drew
       have y1 : w5.drew.cell? ⟨wr.heap.size, 1, none⟩ = some (.int .i64 p.expect) := (HBP.out.ext hw5d).cell 1
       have HW6 := jh (ja (HW5.out.1.tr hw5d) (ja (HW5.out.2.1.ext hw5d) (HW5.out.2.2.tr hw5d)))
       clear y0 y5 hlo5 hfo5 hbl5 HW5 hw5d
       have hdd : w5.drew.heap.size = w5.heap.size := rfl
       clear hdd
       generalize w5.drew = w6 at *
       have hB6 := HB2.out.2.ext (HL4.out.2.tr HW6.out.2.2)
       have HVV := jh hvv
       have hfl8 : fl2.length + 1 ≤ 9 := by omega
       by_cases hm2 : p.expect = -1 ∨ p.expect = versionT s.table p.stream
       ·have HMM := jh (show mayV s.table (b.puts.drop (k + 1)) (fl2 ++ [versionT s.table p.stream + 1]) = mayV s.table b.puts [] from by rw [← HMV.out, HMD.out, if_neg (by omega)])
        generalize versionT s.table p.stream = ver at *
        obtain ⟨i0, e1, e2, e3, e4⟩ := info_parts int_info
        obtain ⟨hv0, hv1⟩ := hvv
        have hfo6 := HW6.out.2.1
        have hz6 : w4.heap.size ≤ w6.heap.size := HW6.out.2.2.size
        have hrx : IntR.rep w6 (fun _ => False) [.int .i64 (ver + 1)] (ver + 1) := ⟨rfl, show i64 (ver + 1) from ⟨by omega, by omega⟩⟩
        have hfin : ∀ a b : Bool, a = (p.expect == -1) → b = (p.expect == ver) → a = true ∨ b = true := fun a b ha hb => by
         rcases hm2 with h | h
         ·left; rw [ha, h]; rfl
         ·right; rw [hb, h]; simp
        rcases hm2 with hm2 | hm2
        ·have hq1 : (p.expect != -1) = false := by rw [hm2]; rfl
         clear hm2 hfin hpe
         go_wp2_with (first
          | (at_builtin; refine wpList_append_new (R := IntR) w6 rfl (.tmp 82) (.tmp 85) _ rfl w4.heap.size 3 i0 _ 8 Tryz.underlying43 e1 e2 e3 e4 rfl _ fl2 (fun _ => True) rfl hfo6 (fun _ _ => trivial) rfl (fun _ => False) _ hrx (fun _ h => h.elim) (by unfold maxLen; omega) (by omega) hz6 ?_; intro v1 w7 ho1 hg1 hat1 hn1 hb7)
          | fail)
         go_round
         case rel => exact ⟨k + 1, fl2 ++ [ver + 1], by omega, by go_num, ho1, by simp; omega, HMM.out, HW6.out.2.2.trans hb7⟩
         case measure => simp [intOf]; omega
        ·by_cases hm1 : p.expect = -1
         ·exact absurd (hm1.symm.trans hm2) (by omega)
         ·have hq1 : (p.expect != -1) = true := bne_iff_ne.2 hm1
          have hq2 : (p.expect != ver) = false := by rw [hm2]; simp
          clear hm2 hm1 hfin hpe
          go_wp2_with (first
           | (at_builtin; refine wpList_append_new (R := IntR) w6 rfl (.tmp 82) (.tmp 85) _ rfl w4.heap.size 3 i0 _ 8 Tryz.underlying43 e1 e2 e3 e4 rfl _ fl2 (fun _ => True) rfl hfo6 (fun _ _ => trivial) rfl (fun _ => False) _ hrx (fun _ h => h.elim) (by unfold maxLen; omega) (by omega) hz6 ?_; intro v1 w7 ho1 hg1 hat1 hn1 hb7)
           | fail)
          go_round
          case rel => exact ⟨k + 1, fl2 ++ [ver + 1], by omega, by go_num, ho1, by simp; omega, HMM.out, HW6.out.2.2.trans hb7⟩
          case measure => simp [intOf]; omega
       ·have HMM := jh (show mayV s.table b.puts [] = ([], zeroKnown, 5) from by rw [← HMV.out, HMD.out, if_pos (by omega)])
        have hm1 : p.expect ≠ -1 := fun h => hm2 (.inl h)
        have hm3 : p.expect ≠ versionT s.table p.stream := fun h => hm2 (.inr h)
        generalize versionT s.table p.stream = ver at *
        have hq1 : (p.expect != -1) = true := bne_iff_ne.2 hm1
        have hq2 : (p.expect != ver) = true := bne_iff_ne.2 hm3
        clear hm1 hm2 hm3 hpe hvv
        go_wp2_with (first
         | (refine wpList_store_blk (cs := zeroKnown.cells) rfl rfl rfl rfl rfl hB6 (by kernel_rfl) rfl (by simp [zeroKnown, zeroStamp, Known.cells, Value.oneCell']) ?_; intro w8 hB8 hO8 hz8)
         | fail)
        rw [HM2.out, if_neg (by rw [HCD.out]; simp), HMM.out]
        exact bodyPost_ret (results_mid rfl _ hB8 (by rfl) Tryz.underlying49 rfl (by kernel_rfl)) rfl ⟨⟨_, rfl, Rep.Own.nil_⟩, HW6.out.1.trans (hO8.low (fun g hg => by have : g = w.heap.size + 1 := hg; omega) HW6.out.1.size)⟩
      ·have hkn : k = b.puts.length := by omega
       subst hkn
       have HE := jh (show mayV s.table b.puts [] = (fl2, zeroKnown, 0) from by rw [← HMV.out, List.drop_length]; rfl)
       have HH := jh (ja hlo4 hfo)
       have hBF := HB2.out.2.ext (HL4.out.2.tr hbl)
       clear hfo hlo4
       go_wp2_with (first
        | (refine wpList_store_blk (cs := zeroKnown.cells) rfl rfl rfl rfl rfl hBF (by kernel_rfl) rfl (by simp [zeroKnown, zeroStamp, Known.cells, Value.oneCell']) ?_; intro w8 hB8 hO8 hz8)
        | fail)
       rw [HM2.out, if_neg (by rw [HCD.out]; simp), HE.out]
       exact bodyPost_ret (results_mid rfl _ hB8 (by rfl) Tryz.underlying49 rfl (by kernel_rfl)) rfl ⟨⟨_, rfl, ((HH.out.2.plain (S' := fun _ => False) int_plain).only hO8 (fun _ h => h.elim) (fun g hg h => by have := (HH.out.2.lt g hg).1; have : g = w.heap.size + 1 := h; omega)).base' (by omega)⟩, HH.out.1.trans (hO8.low (fun g hg => by have : g = w.heap.size + 1 := hg; omega) HH.out.1.size)⟩
    ·have HCD := jh hcd
     have hcd' : (code == 0) = false := by rw [beq_eq_false_iff_ne]; exact hcd
     clear hcd
     have hD : KnB w3.heap.size kn (w3.alloc (.cells #[.string kn.key, .int .i64 kn.first, .int .i64 kn.stamp.wall, .int .i64 kn.stamp.logic, .int .i64 kn.stamp.node] 49)) := BK
     haveI : Nonempty (Wd (KnB w3.heap.size kn)) := ⟨⟨_, hD⟩⟩
     have z0 := KnB.c0 (g := w3.heap.size) (x := kn)
     have z1 := KnB.c1 (g := w3.heap.size) (x := kn)
     have z2 := KnB.c2 (g := w3.heap.size) (x := kn)
     have z3 := KnB.c3 (g := w3.heap.size) (x := kn)
     have z4 := KnB.c4 (g := w3.heap.size) (x := kn)
     have hBF := HB2.out.2.ext hbl4
     have HH := jh (ja hvf4 (ja hlo4 hBF))
     clear hb4 BK hvf4 hvf hlo4 hbl4 hb3 hlo3 hbl3
     go_upto_region 16 with fail
     generalize (w3.alloc (.cells #[.string kn.key, .int .i64 kn.first, .int .i64 kn.stamp.wall, .int .i64 kn.stamp.logic, .int .i64 kn.stamp.node] 49)) = w4 at *
     refine wp_region_mix (.seg [0, 1, 2, 3] 4 (.leaf [5])) (fun w' => ∃ d : Wd (KnB w3.heap.size kn), w' = d.w) (by kernel_rfl) (by kernel_rfl) (fun _ _ d _ _ h => by cases d <;> exact h) (ClsW.mk (D := KnB w3.heap.size kn) (Blk.drew hD)) ?_
     unfold wpMix; simp only [pick, j1, j2, j3, j4]
     (repeat (show wpQuiet _ _ _ _ (_ :: _) _; go_big_quiet_step (fail))); refine qn ?_
     refine wpList_store_blk (cs := kn.cells) rfl rfl rfl rfl rfl (Blk.drew HH.out.2.2) (by kernel_rfl) rfl (by simp [Known.cells, Value.oneCell']) ?_
     intro w8 hB8 hO8 hz8
     dsimp only [wpList, SegQ]
     refine ⟨fun w' => ∃ d : Wd (KnB w3.heap.size kn), w' = d.w, ClsW.mk (D := KnB w3.heap.size kn) (Blk.only (Blk.drew hD) hO8 (fun h => by have : w3.heap.size = w.heap.size + 1 := h; omega)), fun _ h => h, ?_⟩
     unfold wpMix; simp only [pick, j1, j2, j3, j4]
     (repeat (show wpQuiet _ _ _ _ (_ :: _) _; go_big_quiet_step (fail))); refine qn ?_
     have hO9 : Only (fun g => g = w.heap.size + 1) w4 w8 := (jo (jb _ w4).drew).tr hO8
     have hF9 : IntR.Own w8 wr.heap.size 3 (fun _ => False) vf fl := HH.out.1.only hO9 (fun _ h => h.elim) (fun g hg h => by have := (HH.out.1.lt g hg).1; have : g = w.heap.size + 1 := h; omega)
     have HO9 := jh (ja hO9 hF9)
     clear hO9 hF9 z0 z1 z2 z3 z4 hD
     go_wp2_with fail
     rw [HM2.out, if_pos HCD.out]
     exact bodyPost_ret (results_mid rfl _ hB8 (by rfl) Tryz.underlying49 rfl (by kernel_rfl)) rfl ⟨⟨_, rfl, HO9.out.2.base' (by omega)⟩, HH.out.2.1.trans (HO9.out.1.low (fun g hg => by have : g = w.heap.size + 1 := hg; omega) HH.out.2.1.size)⟩
 ·have HC := jh hc
  have hc' : (checkB b == 0) = false := by rw [beq_eq_false_iff_ne]; exact hc
  clear hc
  go_wp2_with (first
   | (refine wpList_store_blk (cs := zeroKnown.cells) rfl rfl rfl rfl rfl HB2.out.2 (by kernel_rfl) rfl (by simp [zeroKnown, zeroStamp, Known.cells, Value.oneCell']) ?_; intro w8 hB8 hO8 hz8)
   | fail)
  rw [show mayS s b = ([], zeroKnown, checkB b) from by rw [HM.out, if_pos HC.out]]
  exact bodyPost_ret (results_mid rfl _ hB8 (by rfl) Tryz.underlying49 rfl (by kernel_rfl)) rfl ⟨⟨_, rfl, Rep.Own.nil_⟩, hw2.trans (hO8.low (fun g hg => by have : g = w.heap.size + 1 := hg; omega) hw2.size)⟩
end Go.Proofs.YtcmjgghkmdbphaaGreatDoor
namespace Go.Proofs.YtcmjgghkmdbphaaGreatDoor
open Go.RowKit
theorem metK_snoc (l : List Known) (p : Known) (s : Str) : metK (l ++ [p]) s = metK l s + (if p.key = s then 1 else 0) := by
 unfold metK; rw [List.filter_append, List.length_append]
 by_cases h : p.key = s <;> simp [h]
def keyOkB (ev : List Event) (l : List Known) (k : Known) : Bool := decide (metK l k.key = 0) && (decide (k.first ≤ ev.length) && decide ((ev.map Event.stamp).getD (k.first - 1).toNat zeroStamp = k.stamp))
theorem keysB_drop (ev : List Event) (l : List Known) (k : Nat) (h : k < l.length) : keysB ev (l.take k) (l.drop k) = (keyOkB ev (l.take k) l[k] && keysB ev (l.take (k + 1)) (l.drop (k + 1))) := by
 rw [List.drop_eq_getElem_cons h, take_snoc _ _ h]
 show (_ && (_ && (_ && _))) = _
 unfold keyOkB
 simp only [Bool.and_assoc]
theorem known_first {s : Stream} (h : streamB s = true) : ∀ k ∈ s.keys, 1 ≤ k.first := fun k hk => by
 simp only [streamB, Bool.and_eq_true, List.all_eq_true] at h
 exact (knownB_iff.1 (h.2.2 k hk)).2.2.1
theorem whole_any (s : Stream) (A A' : Option Addr) (c c' : Nat) (P : Nat → Prop) (w : World) (hn : sfit s.name) (hr : EventR.Row w P A s.events) (hr' : KnownR.Row w P A' s.keys) (hl : s.events.length ≤ 40000) (hl' : s.keys.length ≤ 40000) (hT : Tabs w) (h2 : 2 ≤ w.heap.size) :
 Calls Tryz.prog 267 #[.agg #[.string s.name, .slice A s.events.length c, .slice A' s.keys.length c']] w fun en w' => en = .returned (.bool (wholeB s)) ∧ Below w.heap.size w w' := by
 have hb0 := (jb w.heap.size w).al (.cells #[.string s.name, .slice A s.events.length c, .slice A' s.keys.length c'] 199)
 have C := encodeS_any s A A' c c' P _ hn (hr.ext hb0) (hr'.ext hb0) hl hl' (hT.below hb0) (by simp; omega)
 have B0 := Blk.new w 199 [.string s.name, .slice A s.events.length c, .slice A' s.keys.length c']
 have HR := jh (hr.mono (Q := fun g => g < w.heap.size) fun g _ h => h)
 have HR' := jh (hr'.mono (Q := fun g => g < w.heap.size) fun g _ h => h)
 have HWB := jh (show wholeB s = (streamB s && (decide (s.events ≠ []) && (goesB s.events 0 && keysB s.events [] s.keys))) from rfl)
 have HSTR := jh (fun h : streamB s = true => known_first h)
 have hmm := @run_makeMap Tryz.prog
 have CG := fun W (hb : Below w.heap.size w W) => goes_any A c s.events 0 P W (hr.ext hb) (by omega) (by omega)
 clear hr hr' hn
 have HW1 := jh (fun h : s.events.length = 0 => show wholeB s = false from by rw [HWB.out, List.eq_nil_of_length_eq_zero h]; simp)
 have HW2 := jh (fun h : goesB s.events 0 = false => show wholeB s = false from by rw [HWB.out, h]; simp)
 have HW3 := jh (fun (h1 : streamB s = true) (h2 : ¬ s.events.length = 0) (h3 : goesB s.events 0 = true) => show wholeB s = keysB s.events [] s.keys from by
  have h4 : s.events ≠ [] := fun e => h2 (by rw [e]; rfl)
  rw [HWB.out, h1, h3]; simp [h4])
 obtain ⟨name, ev, ks⟩ := s
 simp only at *
 cases hq : streamB ⟨name, ev, ks⟩
 ·have HQ := jh hq
  rw [hq] at C
  clear hq
  go_enter Tryz.func267, Tryz.ntmps267
  go_wp2_with fail
  refine C.mono ?_
  clear C
  rintro en w1 ⟨he, hb1⟩
  obtain rfl := he.out0
  go_wp2_with fail
  go_ret
  exact ⟨ret_bool (by rw [HWB.out, HQ.out]; rfl), hb0.tr hb1⟩
 have HQ := jh hq
 rw [hq] at C
 clear hq
 by_cases he0 : ev.length = 0
 ·have HE0 := jh he0
  clear he0
  go_enter Tryz.func267, Tryz.ntmps267
  go_wp2_with fail
  refine C.mono ?_
  clear C
  rintro en w1 ⟨he, hb1⟩
  obtain ⟨v1, n1, rfl, hv1, hn1, _⟩ := he.out1
  obtain ⟨A1, c1, rfl, _⟩ := hv1.form
  have hn0 : ((n1 : Int) == 0) = false := by rw [beq_eq_false_iff_ne]; omega
  have x1 : w1.cell? ⟨w.heap.size, 1, none⟩ = some (.slice A ev.length c) := (B0.ext hb1).cell 1
  have h00 : ((ev.length : Int) == 0) = true := by rw [beq_iff_eq]; have := HE0.out; omega
  go_wp2_with fail
  go_ret
  rw [HW1.out HE0.out]
  exact ⟨rfl, hb0.tr hb1⟩
 have h00 : ((ev.length : Int) == 0) = false := by rw [beq_eq_false_iff_ne]; omega
 cases hq : goesB ev 0
 ·have HG := jh hq
  rw [hq] at CG
  clear hq
  go_enter Tryz.func267, Tryz.ntmps267
  go_wp2_with fail
  refine C.mono ?_
  clear C
  rintro en w1 ⟨he, hb1⟩
  obtain ⟨v1, n1, rfl, hv1, hn1, _⟩ := he.out1
  obtain ⟨A1, c1, rfl, _⟩ := hv1.form
  have hn0 : ((n1 : Int) == 0) = false := by rw [beq_eq_false_iff_ne]; omega
  have x1 : w1.cell? ⟨w.heap.size, 1, none⟩ = some (.slice A ev.length c) := (B0.ext hb1).cell 1
  go_wp2_with fail
  refine (CG w1 (hb0.tr hb1)).mono ?_
  clear CG
  rintro en w2 ⟨rfl, hb2⟩
  go_wp2_with fail
  go_ret
  rw [HW2.out HG.out]
  exact ⟨rfl, (hb0.tr hb1).tr hb2⟩
 have HG := jh hq
 rw [hq] at CG
 clear hq
 have HWK := jh (HW3.out HQ.out he0 HG.out)
 go_enter Tryz.func267, Tryz.ntmps267
 go_wp2_with fail
 refine C.mono ?_
 clear C
 rintro en w1 ⟨he, hb1⟩
 obtain ⟨v1, n1, rfl, hv1, hn1, _⟩ := he.out1
 obtain ⟨A1, c1, rfl, _⟩ := hv1.form
 have hn0 : ((n1 : Int) == 0) = false := by rw [beq_eq_false_iff_ne]; omega
 have x1 : w1.cell? ⟨w.heap.size, 1, none⟩ = some (.slice A ev.length c) := (B0.ext hb1).cell 1
 go_wp2_with fail
 refine (CG w1 (hb0.tr hb1)).mono ?_
 clear CG x1
 rintro en w2 ⟨rfl, hb2⟩
 have hw2 := (hb0.tr hb1).tr hb2
 have B2 := (B0.ext hb1).ext hb2
 have HBL := jh B2.lt
 have x2 : w2.cell? ⟨w.heap.size, 2, none⟩ = some (.slice A' ks.length c') := B2.cell 2
 have HFST := jh (HSTR.out HQ.out)
 clear hb0 hb1 hb2 hv1 B0
 go_upto_region 4 with fail
 have hMn := MapAt.new (enc := strE) w2
 have hw3 := hw2.al (.map #[] 0)
 have B3 := B2.alloc (.map #[] 0)
 clear x2 B2
 have x2 : (w2.alloc (.map #[] 0)).cell? ⟨w.heap.size, 2, none⟩ = some (.slice A' ks.length c') := B3.cell 2
 have hz2 : w.heap.size < w2.heap.size := by have := HBL.out; omega
 go_wp2_with fail
 have HB3 := jh B3
 clear x2 B3
 go_loopw [26] (fun i wr => ∃ (k : Nat) (ps : List (Str × Value)), k ≤ ks.length ∧ i = .int .i64 k ∧ MapAt strE wr w2.heap.size ps ∧ (∀ s, (assocOf s ps).getD (.int .i64 0) = .int .i64 (metK (ks.take k) s)) ∧
  Blk wr w.heap.size 199 [.string name, .slice A ev.length c, .slice A' ks.length c'] ∧ Below w.heap.size w wr ∧ keysB ev (ks.take k) (ks.drop k) = keysB ev [] ks) (fun i _ => ks.length - (intOf i).toNat)
 case atStart => exact ⟨0, [], Nat.zero_le _, rfl, hMn, fun s => rfl, HB3.out, hw3, rfl⟩
 case round =>
  obtain ⟨k, ps, hkl, rfl, hM, hps, hB, hbl, hpb⟩ := hrel
  have hsz := hM.lt
  have HPS := jh (ja hps hpb); clear hps hpb
  by_cases hlt : k < ks.length
  ·have hlk := jg hlt
   obtain ⟨bb, o, cs, rfl, hP, hbw, hrep, hcs⟩ := (HR'.out.ext hbl).at_ hlk
   have hpd := keysB_drop ev ks k hlt
   have hts := take_snoc ks k hlt
   have hfs := HFST.out _ (List.getElem_mem hlt)
   generalize ks[k] = x at hlk hrep hpd hts hfs
   obtain ⟨rfl, hxf⟩ := known_rep.1 hrep
   unfold Known.cells at hcs
   have c0 := hcs 0 _ rfl; have c1 := hcs 1 _ rfl; have c2 := hcs 2 _ rfl; have c3 := hcs 3 _ rfl; have c4 := hcs 4 _ rfl; simp only [KnownR_size, Nat.add_zero] at c0 c1 c2 c3 c4
   have HPD := jh (ja hpd (ja hts (ja hfs hxf))); clear hpd hts hfs hxf hcs hrep hlk
   have hlt' : (k : Int) < ks.length := by omega
   have hkm : (k : Int) ≤ 40000 := by omega
   have hmt : ((metK (ks.take k) x.key : Nat) : Int) ≤ 1000000 := by
    have h1 : metK (ks.take k) x.key ≤ (ks.take k).length := List.length_filter_le _ _
    simp at h1; omega
   have hM2 := hM.alloc (.cells #[.string x.key, .int .i64 x.first, .int .i64 x.stamp.wall, .int .i64 x.stamp.logic, .int .i64 x.stamp.node] 49)
   go_upto_region 8 with (first
    | (at_lookup; refine wpList_lookup_map strKey rfl (.tmp 30) (.tmp 32) 337 false rfl Tryz.underlying337 rfl hM2 x.key rfl _ (zero_int _) ?_; rw [if_neg (by simp), HPS.out.1])
    | (at_mapUpdate; refine wpList_mapUpdate_map strKey rfl rfl (.tmp 30) (.tmp 32) (.tmp 34) 337 rfl Tryz.underlying337 rfl hM2 x.key rfl _ rfl ?_; intro w4 hM3 hO3)
    | fail)
   have hbx := (((Blk.new wr 49 [.string x.key, .int .i64 x.first, .int .i64 x.stamp.wall, .int .i64 x.stamp.logic, .int .i64 x.stamp.node]).only hO3 (by omega)))
   have hsm : Only (· = w2.heap.size) wr w4 := (Only.alloc _).tr hO3
   have hB4 := hB.only hsm (by omega)
   have hbl4 := hbl.trans (hsm.low (B := w.heap.size) (fun g hg => by omega) (by omega))
   have hrowE := HR.out.ext hbl4
   have hbxlt := hbx.lt
   have hgo : (assocOf x.key (assocPut x.key (Value.int .i64 ((metK (ks.take k) x.key : Int) + 1)) ps)).getD (.int .i64 0) = .int .i64 ((metK (ks.take k) x.key : Int) + 1) := by
    rw [assocOf_put, if_pos rfl]; rfl
   have HPS2 := jh (show ∀ s, (assocOf s (assocPut x.key (Value.int .i64 ((metK (ks.take k) x.key : Int) + 1)) ps)).getD (.int .i64 0) = .int .i64 (metK (ks.take (k + 1)) s) from fun s => by
    rw [HPD.out.2.1, metK_snoc, assocOf_put]
    by_cases hs : s = x.key
    ·subst hs; rw [if_pos rfl, if_pos rfl]; rfl
    ·rw [if_neg hs, if_neg (fun e => hs e.symm), HPS.out.1, Nat.add_zero])
   have HPB := jh (show keysB ev (ks.take k) (ks.drop k) = keysB ev [] ks from HPS.out.2)
   have hM4 : MapAt strE w4 w2.heap.size (assocPut x.key (Value.int .i64 ((metK (ks.take k) x.key : Int) + 1)) ps) := hM3
   clear hM3
   have HX := jh (ja hB4 (ja hbl4 hM4))
   have HRE := jh hrowE
   have hlk := fun d : Wd (On w4) => run_lookup_map strKey Tryz.underlying337 (hM4.ext d.ok) x.key (.int .i64 0) (zero_int d.w) false
   rw [if_neg (by simp), hgo] at hlk
   have x0 := On.cell (hbx.cell 0 : w4.cell? ⟨wr.heap.size, 0, none⟩ = some (.string x.key))
   have x1 := On.cell (hbx.cell 1 : w4.cell? ⟨wr.heap.size, 1, none⟩ = some (.int .i64 x.first))
   have x2 := On.cell (hbx.cell 2 : w4.cell? ⟨wr.heap.size, 2, none⟩ = some (.int .i64 x.stamp.wall))
   have x3 := On.cell (hbx.cell 3 : w4.cell? ⟨wr.heap.size, 3, none⟩ = some (.int .i64 x.stamp.logic))
   have x4 := On.cell (hbx.cell 4 : w4.cell? ⟨wr.heap.size, 4, none⟩ = some (.int .i64 x.stamp.node))
   have s1 := On.cell (hB4.cell 1 : w4.cell? ⟨w.heap.size, 1, none⟩ = some (.slice A ev.length c))
   clear HPS hM2 hM hB hbl hO3 c0 c1 c2 c3 c4 hsm hsz hbx hB4 hbl4 hM4 hgo hrowE hP hbw
   generalize wr.heap.size = bx at *
   generalize hn0 : metK (ks.take k) x.key = n0 at *
   have HN0 := jh hn0; clear hn0
   have bad : keyOkB ev (ks.take k) x = false → false = wholeB ⟨name, ev, ks⟩ := fun h => by
    rw [HWK.out, ← HPB.out, HPD.out.1, h]; rfl
   have HBAD := jh bad
   clear bad
   by_cases hn0 : n0 = 0
   ·by_cases hfl : x.first ≤ ev.length
    ·have HNF := jh (ja hn0 hfl)
     have g1 : decide ((1 : Int) < (n0 : Int) + 1) = false := jd (by omega)
     obtain ⟨j, hj⟩ : ∃ j : Nat, x.first = j + 1 := ⟨(x.first - 1).toNat, by have := HPD.out.2.2.1; omega⟩
     have hjl : j < ev.length := by omega
     have hjl' : (j : Int) < ev.length := by omega
     have g2 : decide ((ev.length : Int) < (j : Int) + 1) = false := jd (by omega)
     have hle := jg hjl
     obtain ⟨eb, eo, cs, rfl, _, _, hrep, hcs⟩ := HRE.out.at_ hle
     obtain ⟨rfl, _⟩ := event_rep.1 hrep
     generalize ev[j] = y at hle hcs hrep
     have z3 := hcs 3 _ rfl
     have z4 := hcs 4 _ rfl
     have z5 := hcs 5 _ rfl
     simp only [EventR_size] at z3 z4 z5
     have z3 := On.cell z3
     have z4 := On.cell z4
     have z5 := On.cell z5
     rw [hj] at x1
     have hOK := jh (show keyOkB ev (ks.take k) x = decide (y.stamp = x.stamp) from by
      unfold keyOkB
      rw [HN0.out, decide_eq_true HNF.out.1, decide_eq_true HNF.out.2, Bool.true_and, Bool.true_and, hj, show ((j : Int) + 1 - 1).toNat = j from by omega, List.getD_eq_getElem?_getD, List.getElem?_map, hle]; rfl)
     have HJ := jh hj
     clear hcs hrep hle hj hn0 hfl
     have hcase : (y.stamp.wall ≠ x.stamp.wall) ∨ (y.stamp.wall = x.stamp.wall ∧ y.stamp.logic ≠ x.stamp.logic) ∨ (y.stamp.wall = x.stamp.wall ∧ y.stamp.logic = x.stamp.logic ∧ y.stamp.node ≠ x.stamp.node) ∨
      (y.stamp.wall = x.stamp.wall ∧ y.stamp.logic = x.stamp.logic ∧ y.stamp.node = x.stamp.node) := by
      by_cases y.stamp.wall = x.stamp.wall <;> by_cases y.stamp.logic = x.stamp.logic <;> by_cases y.stamp.node = x.stamp.node <;> simp [*]
     rcases hcase with g | g | g | g
     ·have G := jh g
      (have g3 : (y.stamp.wall == x.stamp.wall) = false := by rw [beq_eq_false_iff_ne] ; exact g)
      clear g
      refine wp_region_mix (.leaf [0, 1, 2, 3, 4, 5, 6, 7, 8, 9, 10, 11, 12, 13, 14, 15, 16, 17, 18, 19, 20, 21, 22, 23, 24, 25]) (fun w' => ∃ d : Wd (On w4), w' = d.w) (by kernel_rfl) (by kernel_rfl) (fun _ _ d _ _ h => by cases d <;> exact h) (ClsW.mk (jb _ _).drew) ?_
      unfold wpMix; simp only [pick, j1, j2, j3, j4]
      (repeat (show wpQuiet _ _ _ _ (_ :: _) _; go_big_quiet_step (fail))); refine qn ?_
      go_wp2_with fail
      go_ret
      refine ⟨ret_bool (HBAD.out ?_), HX.out.2.1.drew⟩
      rw [hOK.out]
      exact jd (fun e => G.out (by rw [e]))
     ·have G := jh g
      (rw [g.1] at z3) ; (have g3 : (y.stamp.logic == x.stamp.logic) = false := by rw [beq_eq_false_iff_ne] ; exact g.2)
      clear g
      refine wp_region_mix (.leaf [0, 1, 2, 3, 4, 5, 6, 7, 8, 9, 10, 11, 12, 13, 14, 15, 16, 17, 18, 19, 20, 21, 22, 23, 24, 25]) (fun w' => ∃ d : Wd (On w4), w' = d.w) (by kernel_rfl) (by kernel_rfl) (fun _ _ d _ _ h => by cases d <;> exact h) (ClsW.mk (jb _ _).drew) ?_
      unfold wpMix; simp only [pick, j1, j2, j3, j4]
      (repeat (show wpQuiet _ _ _ _ (_ :: _) _; go_big_quiet_step (fail))); refine qn ?_
      go_wp2_with fail
      go_ret
      refine ⟨ret_bool (HBAD.out ?_), HX.out.2.1.drew⟩
      rw [hOK.out]
      exact jd (fun e => G.out.2 (by rw [e]))
     ·have G := jh g
      (rw [g.1] at z3) ; (rw [g.2.1] at z4) ; (have g3 : (y.stamp.node == x.stamp.node) = false := by rw [beq_eq_false_iff_ne] ; exact g.2.2)
      clear g
      refine wp_region_mix (.leaf [0, 1, 2, 3, 4, 5, 6, 7, 8, 9, 10, 11, 12, 13, 14, 15, 16, 17, 18, 19, 20, 21, 22, 23, 24, 25]) (fun w' => ∃ d : Wd (On w4), w' = d.w) (by kernel_rfl) (by kernel_rfl) (fun _ _ d _ _ h => by cases d <;> exact h) (ClsW.mk (jb _ _).drew) ?_
      unfold wpMix; simp only [pick, j1, j2, j3, j4]
      (repeat (show wpQuiet _ _ _ _ (_ :: _) _; go_big_quiet_step (fail))); refine qn ?_
      go_wp2_with fail
      go_ret
      refine ⟨ret_bool (HBAD.out ?_), HX.out.2.1.drew⟩
      rw [hOK.out]
      exact jd (fun e => G.out.2.2 (by rw [e]))
     ·have G := jh g
      rw [g.1] at z3
      rw [g.2.1] at z4
      rw [g.2.2] at z5
      clear g
      refine wp_region_mix (.leaf [0, 1, 2, 3, 4, 5, 6, 7, 8, 9, 10, 11, 12, 13, 14, 15, 16, 17, 18, 19, 20, 21, 22, 23, 24, 25]) (fun w' => ∃ d : Wd (On w4), w' = d.w) (by kernel_rfl) (by kernel_rfl) (fun _ _ d _ _ h => by cases d <;> exact h) (ClsW.mk (jb _ _).drew) ?_
      unfold wpMix; simp only [pick, j1, j2, j3, j4]
      (repeat (show wpQuiet _ _ _ _ (_ :: _) _; go_big_quiet_step (fail))); refine qn ?_
      go_wp2_with fail
      go_round
      case rel =>
       refine ⟨k + 1, _, by omega, by go_num, HX.out.2.2.drewN 1, HPS2.out, HX.out.1.drew, HX.out.2.1.drew, ?_⟩
       have h := HPB.out
       have hst : y.stamp = x.stamp := by
        have := G.out
        obtain ⟨y1, y2, y3, ⟨y4, y5, y6⟩, y7⟩ := y
        obtain ⟨x1, x2, ⟨x3, x4, x5⟩⟩ := x
        simp only at this ⊢
        rw [this.1, this.2.1, this.2.2]
       rw [HPD.out.1, hOK.out, decide_eq_true hst, Bool.true_and] at h
       exact h
      case measure => simp [intOf]; omega
    ·have HNF := jh (ja hn0 hfl)
     have g1 : decide ((1 : Int) < (n0 : Int) + 1) = false := jd (by omega)
     have g2 : (ev.length : Int) < x.first := by omega
     clear hn0 hfl
     refine wp_region_mix (.leaf [0, 1, 2, 3, 4, 5, 6, 7, 8, 9, 10, 11, 12, 13, 14, 15, 16, 17, 18, 19, 20, 21, 22, 23, 24, 25]) (fun w' => ∃ d : Wd (On w4), w' = d.w) (by kernel_rfl) (by kernel_rfl) (fun _ _ d _ _ h => by cases d <;> exact h) (ClsW.mk (jb _ _).drew) ?_
     unfold wpMix; simp only [pick, j1, j2, j3, j4]
     (repeat (show wpQuiet _ _ _ _ (_ :: _) _; go_big_quiet_step (fail))); refine qn ?_
     go_wp2_with fail
     go_ret
     refine ⟨ret_bool (HBAD.out ?_), HX.out.2.1.drew⟩
     unfold keyOkB
     rw [show decide (x.first ≤ (ev.length : Int)) = false from jd (by have := HNF.out.2; omega)]; simp
   ·have HNF := jh hn0
    have g1 : (1 : Int) < (n0 : Int) + 1 := by omega
    clear hn0
    refine wp_region_mix (.leaf [0, 1, 2, 3, 4, 5, 6, 7, 8, 9, 10, 11, 12, 13, 14, 15, 16, 17, 18, 19, 20, 21, 22, 23, 24, 25]) (fun w' => ∃ d : Wd (On w4), w' = d.w) (by kernel_rfl) (by kernel_rfl) (fun _ _ d _ _ h => by cases d <;> exact h) (ClsW.mk (jb _ _).drew) ?_
    unfold wpMix; simp only [pick, j1, j2, j3, j4]
    (repeat (show wpQuiet _ _ _ _ (_ :: _) _; go_big_quiet_step (fail))); refine qn ?_
    go_wp2_with fail
    go_ret
    refine ⟨ret_bool (HBAD.out ?_), HX.out.2.1.drew⟩
    unfold keyOkB
    rw [HN0.out, jd HNF.out]; simp
  ·have hkn : k = ks.length := by omega
   subst hkn
   go_wp2_with fail
   go_ret
   refine ⟨ret_bool ?_, hbl⟩
   rw [HWK.out, ← HPS.out.2, List.drop_length]
   cases ks.take ks.length <;> rfl
end Go.Proofs.YtcmjgghkmdbphaaGreatDoor
