/- event.Make: a batch's events. state.put. what putting a batch in does (plain law). -/
import Derived.Test.YtcmjgghkmdbphaaGreatDoorO07
import Derived.Test.YtcmjgghkmdbphaaGreatDoorO09
import Derived.Deep.DeepCutAuto
import Derived.Test.YtcmjgghkmdbphaaGreatDoorO12
import Derived.Test.YtcmjgghkmdbphaaGreatDoorO11
import Derived.Test.YtcmjgghkmdbphaaGreatDoorO08
import Derived.Test.YtcmjgghkmdbphaaGreatDoorO04
set_option maxRecDepth 20000
set_option maxHeartbeats 25600000
namespace Go.Proofs.YtcmjgghkmdbphaaGreatDoor
open Go.RowKit
theorem makeP_len (p : Put) (a b : Int) (st : Stamp) (ix : Int) : ∀ (d : List Str) (k n : Nat), (makeP p a b st ix d k n).length = d.length
 | [], _, _ => rfl
 | x :: d, k, n => by simp [makeP, makeP_len p a b st ix d]
theorem makeP_snoc (p : Put) (a b : Int) (st : Stamp) (ix : Int) (x : Str) : ∀ (d : List Str) (k n : Nat), makeP p a b st ix (d ++ [x]) k n = makeP p a b st ix d k n ++ [⟨p.stream, a + b * ((k + d.length : Nat) : Int), x, st, ix + ((n + d.length : Nat) : Int)⟩]
 | [], k, n => by simp [makeP]
 | y :: d, k, n => by
   simp only [List.cons_append, makeP, makeP_snoc p a b st ix x d, List.length_cons]
   rw [show k + 1 + d.length = k + (d.length + 1) from by omega, show n + 1 + d.length = n + (d.length + 1) from by omega]
theorem makeF_snoc (p : Put) (st : Stamp) (ix : Int) : ∀ (l : List Put) (f : List Int) (n : Nat), makeF (l ++ [p]) f st ix n = makeF l f st ix n ++ makeP p ((f.drop l.length).headD 0) (if f.drop l.length = [] then 0 else 1) st ix p.data 0 (n + (makeF l f st ix n).length)
 | [], f, n => by simp [makeF]
 | q :: l, f, n => by
   simp only [List.cons_append, makeF, makeF_snoc p st ix l, List.append_assoc, List.length_append, makeP_len, List.length_cons]
   rw [List.drop_tail, show n + q.data.length + (makeF l f.tail st ix (n + q.data.length)).length = n + (q.data.length + (makeF l f.tail st ix (n + q.data.length)).length) from by omega]
theorem makeF_len (st : Stamp) (ix : Int) : ∀ (l : List Put) (f : List Int) (n : Nat), (∀ p ∈ l, p.data.length ≤ 20) → (makeF l f st ix n).length ≤ 20 * l.length
 | [], _, _, _ => by simp [makeF]
 | q :: l, f, n, h => by
   have h1 := makeF_len st ix l f.tail (n + q.data.length) (fun p hp => h p (List.mem_cons_of_mem _ hp))
   have h2 := h q (by simp)
   simp only [makeF, List.length_append, makeP_len, List.length_cons]
   omega
def fstF (f : List Int) (k : Nat) : Int := (f.drop k).headD 0
def stepF (f : List Int) (k : Nat) : Int := if f.drop k = [] then 0 else 1
theorem fst_at {f : List Int} {k : Nat} {n : Int} (h : f[k]? = some n) : fstF f k = n ∧ stepF f k = 1 := by
 have hl := (List.getElem?_eq_some_iff.1 h).1
 have hd : f.drop k = n :: f.drop (k + 1) := by
  rw [List.drop_eq_getElem_cons hl]
  rw [jg hl] at h
  injection h with h; rw [h]
 unfold fstF stepF; rw [hd]; simp
theorem fst_end {f : List Int} {k : Nat} (h : ¬ k < f.length) : fstF f k = 0 ∧ stepF f k = 0 := by
 unfold fstF stepF; rw [List.drop_eq_nil_of_le (by omega)]; simp
theorem make_any (b : Batch) (f : List Int) (st : Stamp) (ix : Int) (A Af : Option Addr) (c cf : Nat) (P Pf : Nat → Prop) (w : World) (hr : PutR.Row w P A b.puts) (hf : IntR.Row w Pf Af f) (hl : b.puts.length ≤ 8) (hd : ∀ p ∈ b.puts, p.data.length ≤ 20) (_hfl : f.length ≤ 100) (hfb : ∀ n ∈ f, -1000000000 ≤ n ∧ n ≤ 1000000000) (hst : st.fit) (hix : 0 ≤ ix ∧ ix ≤ 1000000) :
 Calls Tryz.prog 255 #[.agg #[.string b.key, .slice A b.puts.length c], .slice Af f.length cf, st.val, .int .i64 ix] w fun e w' => GotOwn EventR w.heap.size 202 (fun _ => False) (makeB b f st ix) e w' ∧ Below w.heap.size w w' := by
 have HR := jh (hr.mono (Q := fun g => g < w.heap.size) fun g _ h => h)
 have HF := jh (hf.mono (Q := fun g => g < w.heap.size) fun g _ h => h)
 have HD := jh (ja hd (ja hfb hst))
 have hmk := makeF_len st ix b.puts f 0 hd
 have HMK := jh (fun k => show (makeF (b.puts.take k) f st ix 0).length ≤ 160 from by
  have := makeF_len st ix (b.puts.take k) f 0 (fun p hp => hd p (List.mem_of_mem_take hp))
  have : (b.puts.take k).length ≤ 8 := by rw [List.length_take]; omega
  omega)
 clear hr hf hd hfb hst hmk
 obtain ⟨hix0, hix1⟩ := hix
 unfold Stamp.val
 have B0 := (Blk.new w 25 [.string b.key, .slice A b.puts.length c]).alloc (.cells #[.int .i64 st.wall, .int .i64 st.logic, .int .i64 st.node] 40)
 have B1 := Blk.new1 w (.cells #[.string b.key, .slice A b.puts.length c] 25) 40 [.int .i64 st.wall, .int .i64 st.logic, .int .i64 st.node]
 go_enter Tryz.func255, Tryz.ntmps255
 go_upto_region 1 with fail
 have hb1 := ((jb w.heap.size w).al (.cells #[.string b.key, .slice A b.puts.length c] 25)).al (.cells #[.int .i64 st.wall, .int .i64 st.logic, .int .i64 st.node] 40)
 have hs1 : ((w.alloc (.cells #[.string b.key, .slice A b.puts.length c] 25)).alloc (.cells #[.int .i64 st.wall, .int .i64 st.logic, .int .i64 st.node] 40)).heap.size = w.heap.size + 2 := by simp
 refine forget (M := fun W => Code.wp _ _ _ _ W) (fun W => Below w.heap.size w W ∧ Blk W w.heap.size 25 [.string b.key, .slice A b.puts.length c] ∧ Blk W (w.heap.size + 1) 40 [.int .i64 st.wall, .int .i64 st.logic, .int .i64 st.node] ∧ W.heap.size = w.heap.size + 2) ⟨hb1, B0, B1, hs1⟩ ?_
 clear B0 B1 hb1 hs1
 rintro w1 ⟨hb1, B0, B1, hs1⟩
 have x1 : w1.cell? ⟨w.heap.size, 1, none⟩ = some (.slice A b.puts.length c) := B0.cell 1
 have HB1 := jh (ja B1 hs1)
 clear B0 B1 hs1
 go_wp2_with fail
 clear x1
 go_loopw [8, 18] (fun out i wr => ∃ k : Nat, k ≤ b.puts.length ∧ i = .int .i64 k ∧ EventR.Own wr w1.heap.size 202 (fun _ => True) out (makeF (b.puts.take k) f st ix 0) ∧ Below w1.heap.size w1 wr) (fun _ i _ => b.puts.length - (intOf i).toNat)
 case atStart => exact ⟨0, Nat.zero_le _, rfl, by simpa [makeF] using Rep.Own.nil_, jb _ _⟩
 case round =>
  obtain ⟨k, hk, rfl, hout, hbl⟩ := hrel
  have HO := jh hout; clear hout
  by_cases hlt : k < b.puts.length
  ·have hlk := jg hlt
   have hts := take_snoc b.puts k hlt
   have hdl := HD.out.1 _ (List.getElem_mem hlt)
   obtain ⟨bb, o, cs, hAe, hP, hbw, hrep, hcs⟩ := (HR.out.ext (hb1.trans (hbl.mono hb1.size))).at_ hlk
   generalize b.puts[k] = p at hlk hts hdl hrep
   subst hAe
   obtain ⟨Ad, cd, rfl, hps, hpe, _, _, hrd⟩ := put_rep.1 hrep
   have c0 := hcs 0 _ rfl; have c1 := hcs 1 _ rfl; have c2 := hcs 2 _ rfl; simp only [PutR_size, Nat.add_zero] at c0 c1 c2
   have hlt' : (k : Int) < b.puts.length := by omega
   have HPD := jh (ja hts (ja hdl hrd))
   clear hcs hrep hlk hts hrd hP hbw
   go_upto_if 26 with fail
   have hb2 := hbl.trans (((jb wr.heap.size wr).al (.cells #[.string p.stream, .int .i64 p.expect, .slice Ad p.data.length cd] 69)).mono hbl.size)
   have BP := Blk.new wr 69 [.string p.stream, .int .i64 p.expect, .slice Ad p.data.length cd]
   have hO2 := HO.out.alloc (.cells #[.string p.stream, .int .i64 p.expect, .slice Ad p.data.length cd] 69)
   have hrd2 := HPD.out.2.2.ext ((jb wr.heap.size wr).al (.cells #[.string p.stream, .int .i64 p.expect, .slice Ad p.data.length cd] 69))
   have hzz : w1.heap.size ≤ wr.heap.size := hbl.size
   clear c0 c1 c2
   generalize (wr.alloc (.cells #[.string p.stream, .int .i64 p.expect, .slice Ad p.data.length cd] 69)) = w2 at *
   have hab : -1000000000 ≤ fstF f k ∧ fstF f k ≤ 1000000000 ∧ 0 ≤ stepF f k ∧ stepF f k ≤ 1 := by
    by_cases hkf : k < f.length
    ·obtain ⟨h1, h2⟩ := fst_at (jg hkf)
     have := HD.out.2.1 _ (List.getElem_mem hkf)
     omega
    ·have := fst_end hkf; omega
   go_cut [11, 12] (fun f0 s0 wx => f0 = .int .i64 (fstF f k) ∧ s0 = .int .i64 (stepF f k) ∧ wx = w2)
   case first =>
    by_cases hkf : k < f.length
    ·have hfk := jg hkf
     have hab' := fst_at hfk
     obtain ⟨fb, fo, cs, hAf, _, _, ⟨rfl, _⟩, hcs⟩ := (HF.out.ext (hb1.trans (hb2.mono hb1.size))).at_ hfk
     generalize f[k] = nf at *
     have z0 := hcs 0 _ rfl
     simp only [IntR_size, Nat.mul_one, Nat.add_zero] at z0
     have hkf' : (k : Int) < f.length := by omega
     have HAB := jh hab'
     clear hab' hcs hfk
     subst hAf
     go_wp2_with fail
     go_meet
     exact ⟨by rw [HAB.out.1], by rw [HAB.out.2], rfl⟩
    ·have HAB := jh (fst_end hkf)
     have hkf' : decide (k < f.length) = false := jd hkf
     clear hkf
     simp only [hkf']
     go_wp2_with fail
     go_meet
     exact ⟨by rw [HAB.out.1], by rw [HAB.out.2], rfl⟩
   case rest =>
    obtain ⟨rfl, rfl, rfl⟩ := hcut
    have x2 : wc.cell? ⟨wr.heap.size, 2, none⟩ = some (.slice Ad p.data.length cd) := BP.cell 2
    have HBP := jh (ja BP hO2)
    have HRD := jh hrd2
    have HN := HMK.out k
    have HN1 := HMK.out (k + 1)
    rw [HPD.out.1, makeF_snoc] at HN1
    have HSN := jh (show makeF (b.puts.take k ++ [p]) f st ix 0 = makeF (b.puts.take k) f st ix 0 ++ makeP p (fstF f k) (stepF f k) st ix p.data 0 (makeF (b.puts.take k) f st ix 0).length from by
     rw [makeF_snoc]
     have : (b.puts.take k).length = k := by rw [List.length_take]; omega
     rw [this, Nat.zero_add]; rfl)
    clear HN1 BP hO2 hrd2
    have hzp : wr.heap.size < wc.heap.size := HBP.out.1.lt
    generalize hfs : fstF f k = a at *
    generalize hss : stepF f k = s at *
    generalize hnn : makeF (b.puts.take k) f st ix 0 = l0 at *
    clear hfs hss
    have HYtcmjgghkmdbphaaGreatDoor := jh hnn
    clear hnn HMK
    generalize wr.heap.size = bx at *
    have hdl := HPD.out.2.1
    go_wp2_with fail
    clear x2
    go_loopw [8, 34] (fun out j wr => ∃ i : Nat, i ≤ p.data.length ∧ j = .int .i64 i ∧ EventR.Own wr w1.heap.size 202 (fun _ => True) out (l0 ++ makeP p a s st ix (p.data.take i) 0 l0.length) ∧ Below w1.heap.size w1 wr ∧ Blk wr bx 69 [.string p.stream, .int .i64 p.expect, .slice Ad p.data.length cd] ∧ wc.heap.size ≤ wr.heap.size) (fun _ j _ => p.data.length - (intOf j).toNat)
    case atStart => exact ⟨0, Nat.zero_le _, rfl, by simpa [makeP] using HBP.out.2, hb2, HBP.out.1, Nat.le_refl _⟩
    case round =>
     obtain ⟨i, hik, rfl, hout, hbl2, hBP, hzc⟩ := hrel
     have hz2 := hbl2.size
     by_cases hit : i < p.data.length
     ·have hli := jg hit
      have htk := take_snoc p.data i hit
      generalize p.data[i] = d at hli htk
      obtain ⟨db, dO, cs, rfl, _, _, ⟨rfl, hds⟩, hcs⟩ := (HRD.out.same (w' := wr) (fun g hg _ => (hbl2.block g (by have := hb1.size; omega)).trans (hb2.block g (by have := hb1.size; omega)).symm) hzc).at_ hli
      have c0 := hcs 0 _ rfl; simp only [StrR_size, Nat.add_zero, Nat.mul_one] at c0
      have hit' : (i : Int) < p.data.length := by omega
      have y0 : wr.cell? ⟨bx, 0, none⟩ = some (.string p.stream) := hBP.cell 0
      have hBS := HB1.out.1.below (B := w1.heap.size) hbl2 (by have := HB1.out.2; omega)
      have t0 : wr.cell? ⟨w.heap.size + 1, 0, none⟩ = some (.int .i64 st.wall) := hBS.cell 0
      have t1 : wr.cell? ⟨w.heap.size + 1, 1, none⟩ = some (.int .i64 st.logic) := hBS.cell 1
      have t2 : wr.cell? ⟨w.heap.size + 1, 2, none⟩ = some (.int .i64 st.node) := hBS.cell 2
      obtain ⟨Ao, co, hu, _⟩ := hout.form
      have hlen : (l0 ++ makeP p a s st ix (p.data.take i) 0 l0.length).length = l0.length + i := by rw [List.length_append, makeP_len, List.length_take]; omega
      rw [hlen] at hu
      have hsi : 0 ≤ s * (i : Int) ∧ s * (i : Int) ≤ 20 := by
       have hs01 : s = 0 ∨ s = 1 := by omega
       rcases hs01 with h | h <;> rw [h] <;> omega
      have hw1 : wrap64 (s * (i : Int)) = s * i := wrap_in _ (by omega)
      have hw2 : wrap64 (a + s * (i : Int)) = a + s * i := wrap_in _ (by omega)
      have hw3 : wrap64 (ix + ((l0.length : Int) + (i : Int))) = ix + (l0.length + i) := wrap_in _ (by omega)
      obtain ⟨i0, e1, e2, e3, e4⟩ := info_parts event_info
      have hrx : EventR.rep wr (fun _ => False) [.string p.stream, .int .i64 (a + s * i), .string d, .int .i64 st.wall, .int .i64 st.logic, .int .i64 st.node, .int .i64 (ix + (l0.length + i))] ⟨p.stream, a + s * i, d, st, ix + (l0.length + i)⟩ :=
       event_rep.2 ⟨rfl, hps, show i64 (a + s * i) from ⟨by omega, by omega⟩, hds, HD.out.2.2, show i64 (ix + ((l0.length : Int) + (i : Int))) from ⟨by omega, by omega⟩⟩
      have HTK := jh htk
      have hwz : w1.heap.size ≤ wr.heap.size := hz2
      have HBP2 := jh (ja hbl2 hBP)
      clear htk hcs hli hBP hBS hbl2
      subst hu
      have HOW := jh hout
      go_wp2_with (first
       | (at_builtin; refine wpList_append_new (R := EventR) wr rfl (.tmp 39) (.tmp 54) _ rfl w1.heap.size 202 i0 _ 72 Tryz.underlying64 e1 e2 e3 e4 rfl _ (l0 ++ makeP p a s st ix (p.data.take i) 0 l0.length) (fun _ => True) rfl hout (fun _ _ => trivial) rfl (fun _ => False) _ hrx (fun _ h => h.elim) (by unfold maxLen; omega) (by omega) hwz ?_; intro v1 w6 ho1 hg1 hat1 hn1 hb6)
       | fail)
      go_round
      case rel =>
       refine ⟨i + 1, by omega, by go_num, ?_, HBP2.out.1.trans hb6, HBP2.out.2.only (Only.grown hg1 (F := fun g => (Value.slice Ao (l0.length + i) co).ownBlock = some g) (fun g hg => hg)) (fun h => by obtain ⟨xs, hx, _⟩ := HOW.out; exact own_blk_ne hx HBP2.out.2 (by decide) h), Nat.le_trans hzc hb6.size⟩
       rw [HTK.out, makeP_snoc, ← List.append_assoc]
       have hti : (p.data.take i).length = i := by rw [List.length_take]; omega
       rw [hti, Nat.zero_add, Int.natCast_add]
       exact ho1
      case measure => simp [intOf]; omega
     ·have hin : i = p.data.length := by omega
      subst hin
      rw [List.take_length] at hout
      have hout2 : EventR.Own wr w1.heap.size 202 (fun _ => True) u8 (makeF (b.puts.take (k + 1)) f st ix 0) := by
       rw [HPD.out.1, HSN.out]; exact hout
      have HO2 := jh hout2
      clear hout hout2 hBP
      go_wp2_with fail
      go_round
      case rel => exact ⟨k + 1, by omega, by go_num, HO2.out, hbl2⟩
      case measure => simp [intOf]; omega
  ·have hkn : k = b.puts.length := by omega
   subst hkn
   go_wp2_with fail
   go_ret
   have h1 := HO.out
   rw [List.take_length] at h1
   exact ⟨⟨_, rfl, (h1.plain event_plain).base' hb1.size⟩, hb1.trans (hbl.mono hb1.size)⟩
end Go.Proofs.YtcmjgghkmdbphaaGreatDoor
namespace Go.Proofs.YtcmjgghkmdbphaaGreatDoor
open Go.RowKit
attribute [local go_sem] Range.val
def sumD (l : List Put) : Nat := (l.map fun p => p.data.length).sum
theorem makeF_sum : ∀ (l : List Put) (f : List Int) (st : Stamp) (ix : Int) (n : Nat), (makeF l f st ix n).length = sumD l
 | [], _, _, _, _ => rfl
 | p :: r, f, st, ix, n => by rw [makeF, List.length_append, makeP_len, makeF_sum r]; simp [sumD]
theorem sumD_drop (l : List Put) (k : Nat) (h : k < l.length) : sumD (l.drop k) = l[k].data.length + sumD (l.drop (k + 1)) := by
 unfold sumD; rw [List.drop_eq_getElem_cons h, List.map_cons, List.sum_cons]
theorem putP_drop (key : Str) (l : List Put) (k : Nat) (ev : List Event) (T : Tab) (h : k < l.length) : putP key (l.drop k) ev T = putP key (l.drop (k + 1)) (ev.drop l[k].data.length) (appendT key (ev.take l[k].data.length) T).1 := by
 rw [List.drop_eq_getElem_cons h]; rfl
theorem versionT_append (key : Str) (l : List Event) (T : Tab) (n : Str) : versionT (appendT key l T).1 n ≤ versionT T n + l.length := by
 unfold appendT
 cases l with
 | nil => simp
 | cons e r =>
   dsimp only
   split
   ·simp only [List.length_cons]; omega
   ·split
    ·simp only [List.length_cons]; omega
    ·unfold versionT
     rw [getA_put]
     by_cases hn : n = e.stream
     ·subst hn
      rw [if_pos rfl]
      cases getA e.stream T <;> simp
     ·rw [if_neg hn]
      simp only [List.length_cons]
      cases getA n T <;> simp <;> omega
theorem StIn.low {w : World} {P : Nat → Prop} {s : St} {v : SV} (h : StIn w P s v) : StIn w (fun k => P k ∧ k < w.heap.size) s v := (h.rest.mono fun _ a b => ⟨a, b⟩).full h.table.low
structure StFair (s : St) : Prop where
 len : s.table.length ≤ 40000
 each : ∀ p ∈ s.table, p.2.events.length ≤ 40000 ∧ p.2.keys.length ≤ 40000
 put : PutFair (takeT s.table allHashes)
 log : s.log.length ≤ 40000
 vers : ∀ n, versionT (freshT s.table) n ≤ 39000
structure PtB (g : Nat) (s : St) (v : SV) (nb : Nat) (k : Str) (l : Value) (W : World) : Prop where
 st : Blk W g 176 (s.cells v)
 ba : Blk W nb 25 [.string k, l]
theorem PtB.c5 {g : Nat} {s : St} {v : SV} {nb : Nat} {k : Str} {l : Value} (d : Wd (PtB g s v nb k l)) : d.w.cell? ⟨g, 5, none⟩ = some (ptrV v.tb) := Blk.cell d.ok.st 5
theorem PtB.c0 {g : Nat} {s : St} {v : SV} {nb : Nat} {k : Str} {l : Value} (d : Wd (PtB g s v nb k l)) : d.w.cell? ⟨nb, 0, none⟩ = some (.string k) := Blk.cell d.ok.ba 0
def SPutOut (w : World) (P : Nat → Prop) (g : Nat) (_s s' : St) (e : Ending) (w' : World) : Prop :=
 e = .returned (.tuple #[]) ∧ StAt w' (fun k => P k ∨ w.heap.size ≤ k) g s' ∧ Only (· = g) w w' ∧ w'.cell? ⟨g, 6, none⟩ = w.cell? ⟨g, 6, none⟩
theorem sput_any (g : Nat) (s : St) (b : Batch) (f : List Int) (st : Stamp) (A Af : Option Addr) (c cf : Nat) (P Q : Nat → Prop) (w : World) (h : StAt w P g s) (hg : ¬ P g) (hs : StFair s)
 (hr : PutR.Row w Q A b.puts) (hf : IntR.Row w Q Af f) (hQ : ¬ Q g) (hl : b.puts.length ≤ 8) (hd : ∀ p ∈ b.puts, p.data.length ≤ 20) (hne : ∀ p ∈ b.puts, 0 < p.data.length) (hk : sfit b.key) (hfl : f.length ≤ 100) (hfb : ∀ n ∈ f, -1000000000 ≤ n ∧ n ≤ 1000000000) (hst : st.fit)
 (hT : Tabs w) (h2 : 2 ≤ g) :
 Calls Tryz.prog 172 #[ptrV g, .agg #[.string b.key, .slice A b.puts.length c], .slice Af f.length cf, .agg #[.int .i64 st.wall, .int .i64 st.logic, .int .i64 st.node]] w (SPutOut w P g s (putS s b f st)) := by
 have hgl := h.lt
 obtain ⟨v, hB, hI⟩ := h
 have HB := jh (ja hB hI.low)
 have HG := jh (ja hg hQ)
 have HS := jh hs
 have HR := jh (ja (hr.mono (Q := fun k => Q k ∧ k < w.heap.size) fun g h h' => ⟨h, h'⟩) (hf.mono (Q := fun k => Q k ∧ k < w.heap.size) fun g h h' => ⟨h, h'⟩))
 have HTB := jh (fun W (hW : Below w.heap.size w W) => hT.below hW)
 have HK := jh (ja hk (ja hd (ja hfb hst)))
 have HNE := jh hne
 clear hB hI hg hQ hs hr hf hT hk hd hfb hst hne
 have hb1 := ((jb w.heap.size w).al (.cells #[.string b.key, .slice A b.puts.length c] 25)).al (.cells #[.int .i64 st.wall, .int .i64 st.logic, .int .i64 st.node] 40)
 have B0 := (Blk.new w 25 [.string b.key, .slice A b.puts.length c]).alloc (.cells #[.int .i64 st.wall, .int .i64 st.logic, .int .i64 st.node] 40)
 have B1 := Blk.new1 w (.cells #[.string b.key, .slice A b.puts.length c] 25) 40 [.int .i64 st.wall, .int .i64 st.logic, .int .i64 st.node]
 have hs1 : ((w.alloc (.cells #[.string b.key, .slice A b.puts.length c] 25)).alloc (.cells #[.int .i64 st.wall, .int .i64 st.logic, .int .i64 st.node] 40)).heap.size = w.heap.size + 2 := by simp
 unfold ptrV
 go_enter Tryz.func172, Tryz.ntmps172
 go_upto_region 1 with fail
 refine forget (M := fun W => Code.wp _ _ _ _ W) (fun W => Below w.heap.size w W ∧ Blk W w.heap.size 25 [.string b.key, .slice A b.puts.length c] ∧ Blk W (w.heap.size + 1) 40 [.int .i64 st.wall, .int .i64 st.logic, .int .i64 st.node] ∧ W.heap.size = w.heap.size + 2) ⟨hb1, B0, B1, hs1⟩ ?_
 clear B0 B1 hb1 hs1
 rintro w1 ⟨hb1, B0, B1, hs1⟩
 have C1 := fresh_any g s (fun k => P k ∧ k < w.heap.size) w1 ⟨v, HB.out.1.ext hb1, HB.out.2.same (js hb1)⟩ (fun h => HG.out.1 h.1) HS.out.len HS.out.each HS.out.put (HTB.out w1 hb1) (by omega)
 have HB1 := jh (ja hb1 (ja B0 (ja B1 hs1)))
 unfold ptrV at C1
 clear B0 B1 hs1 hb1
 go_wp2_with fail
 refine C1.mono ?_
 clear C1
 rintro e w2 ⟨rfl, ⟨v2, hB2, hT2, hR2⟩, hO2, h62⟩
 have H6 := jh h62
 clear h62
 have hz2 := hO2.size
 have hz1 : w1.heap.size = w.heap.size + 2 := HB1.out.2.2.2
 have hb2 : Below (w.heap.size + 2) w1 w2 → True := fun _ => trivial
 have B0 : Blk w2 w.heap.size 25 [.string b.key, .slice A b.puts.length c] := HB1.out.2.1.only hO2 (fun h => by have : w.heap.size = g := h; omega)
 have B1 : Blk w2 (w.heap.size + 1) 40 [.int .i64 st.wall, .int .i64 st.logic, .int .i64 st.node] := HB1.out.2.2.1.only hO2 (fun h => by have : w.heap.size + 1 = g := h; omega)
 have hO02 : Only (· = g) w w2 := (jo HB1.out.1).tr hO2
 have hrA := (HR.out.1.same (Same.of_only hO02 fun k hk e => HG.out.2 (e ▸ hk.1)) hO02.size)
 have hrF := (HR.out.2.same (Same.of_only hO02 fun k hk e => HG.out.2 (e ▸ hk.1)) hO02.size)
 have C2 := make_any b f st 0 A Af c cf _ _ w2 hrA hrF hl HK.out.2.1 hfl HK.out.2.2.1 HK.out.2.2.2 ⟨by omega, by omega⟩
 have y0 : w2.cell? ⟨w.heap.size, 0, none⟩ = some (.string b.key) := B0.cell 0
 have y1 : w2.cell? ⟨w.heap.size, 1, none⟩ = some (.slice A b.puts.length c) := B0.cell 1
 have y2 : w2.cell? ⟨w.heap.size + 1, 0, none⟩ = some (.int .i64 st.wall) := B1.cell 0
 have y3 : w2.cell? ⟨w.heap.size + 1, 1, none⟩ = some (.int .i64 st.logic) := B1.cell 1
 have y4 : w2.cell? ⟨w.heap.size + 1, 2, none⟩ = some (.int .i64 st.node) := B1.cell 2
 unfold Stamp.val at C2
 have H2 := jh (ja hB2 (ja hT2 (ja hR2 (ja hO02 (ja B0 B1)))))
 clear hB2 hT2 hR2 hO02 B0 B1 hrA hrF hO2 hb2
 go_wp2_with fail
 refine C2.mono ?_
 clear C2 y0 y1 y2 y3 y4
 rintro e w3 ⟨⟨lv, rfl, hlv⟩, hb3⟩
 obtain ⟨Al, cl, rfl, hcl, hcm⟩ := hlv.form
 obtain ⟨Ag, cg, hvg, hcg1, hcg2, hgr⟩ := H2.out.2.2.1.log
 have hvg' : v2.log = .slice Ag s.log.length cg := by injection hvg
 have hEl : (makeB b f st 0).length ≤ 160 := Nat.le_trans (makeF_len st 0 b.puts f 0 HK.out.2.1) (by omega)
 have C3 := clip_any Ag s.log.length cg w3 hcg1 hcg2 (fun h => by
  rcases Nat.eq_zero_or_pos s.log.length with h0 | h0
  ·exact h0
  ·obtain ⟨_, _, h', _⟩ := hgr h0; rw [h] at h'; cases h')
 have B3 := H2.out.1.ext hb3
 have x10 : w3.cell? ⟨g, 10, none⟩ = some (.slice Ag s.log.length cg) := by rw [← hvg']; exact B3.cell 10
 have hrow := (hgr.ext hb3)
 have hrowE : EventR.Row w3 (fun k => w2.heap.size ≤ k) Al (makeB b f st 0) := hlv.row' event_plain (fun k h => (hlv.lt k h).1)
 have HL3 := jh (ja hlv (ja hb3 B3))
 have hsl := HS.out.log
 have HV := jh (ja hvg' (ja hcl hcm))
 obtain ⟨i0, e1, e2, e3, e4⟩ := info_parts event_info
 have hz3 := hb3.size
 clear hlv hb3 hvg hvg' hgr B3 hcl hcm hcg1 hcg2
 generalize hE : makeB b f st 0 = E at *
 have HE := jh hE
 clear hE
 go_wp2_with fail
 refine C3.mono ?_
 clear C3 x10
 rintro e w' ⟨rfl, rfl⟩
 go_upto_region 4 with (first
  | (at_builtin; go_loud (refine wpList_append_full (R := EventR) w3 rfl (.tmp 23) (.tmp 24) _ rfl 202 i0 _ 72 Tryz.underlying64 e1 e2 e3 e4 rfl Ag s.log _ _ rfl hrow Al cl E rfl hrowE (by unfold maxLen; omega) (by omega) ?_); intro v1 w4 hl4 hb4
     obtain ⟨A1, c1, hv1, hl41, hl42, hl43⟩ := hl4
     obtain rfl : v1 = .slice A1 (s.log ++ E).length c1 := by injection hv1
     have x10 : w4.cell? ⟨g, 10, none⟩ = some v2.log := (HL3.out.2.2.ext hb4).cell 10
     have x10f : w4.frozen? ⟨g, 10, none⟩ = false := (HL3.out.2.2.ext hb4).frozen 10)
  | fail)
 have hz4 := hb4.size
 have hB5 := Blk.set_ (HL3.out.2.2.ext hb4) 10 (.slice A1 (s.log.length + E.length) c1)
 have hG5 : Only (fun k => k = g) w4 (w4.setCell ⟨g, 10, none⟩ (.slice A1 (s.log.length + E.length) c1)) := Only.set_ (F := fun k => k = g) rfl _
 have hz5 := hG5.size
 have h24 : Below w2.heap.size w2 w4 := HL3.out.2.1.tr hb4
 have hO5 := (H2.out.2.2.2.1.tr (jo h24)).tr hG5
 have h25 : Only (fun k => k = g) w2 _ := (jo h24).tr hG5
 have hBox := H2.out.2.2.2.2.1.only h25 (fun h => by have : w.heap.size = g := h; omega)
 have hT5 := H2.out.2.1.same (Same.of_only h25 fun k hk e => by have : k = g := e; omega)
 have hR5 := H2.out.2.2.1.same (Same.of_only h25 fun k hk e => HG.out.1 (by have : k = g := e; exact this ▸ hk.1))
 have hL5 := (EventR.sl.same (show EventR.sl.rep w4 _ [.slice A1 (s.log ++ E).length c1] (s.log ++ E) from ⟨A1, c1, rfl, hl41, hl42, hl43⟩) (Same.of_only hG5 fun k hk e => by
  have e' : k = g := e
  subst e'
  rcases hk with h | h | h
  ·exact HG.out.1 h.1
  ·omega
  ·omega))
 have hE5 := (HL3.out.1.row' event_plain (P := fun k => w2.heap.size ≤ k ∧ k < w3.heap.size) (fun k h => HL3.out.1.lt k h)).same (Same.of_only ((jo hb4).tr hG5) fun k hk e => by have : k = g := e; omega) (by omega)
 generalize hw5 : (w4.setCell ⟨g, 10, none⟩ (.slice A1 (s.log.length + E.length) c1)) = w5 at *
 clear hw5 hG5 h25 h24 hb4 hl41 hl42 hl43 x10 x10f hrow hrowE e1 e2 e3 e4
 have x1 : w5.cell? ⟨w.heap.size, 1, none⟩ = some (.slice A b.puts.length c) := hBox.cell 1
 have H5 := jh (ja hB5 (ja hO5 (ja hBox (ja hR5 hL5))))
 have hvT := jh hT5
 clear hB5 hO5 hBox hR5 hL5
 have hcl := HV.out.2.1
 have hcm := HV.out.2.2
 go_wp2_with fail
 clear x1
 go_loopw [8, 31] (fun ev i wr => ∃ (k : Nat) (Ak : Option Addr) (ck : Nat) (lk : List Event) (Tk : Tab), k ≤ b.puts.length ∧ i = .int .i64 k ∧ ev = .slice Ak lk.length ck ∧ lk.length ≤ ck ∧ ck ≤ 9223372036854775807 ∧
  EventR.Row wr (fun q => w2.heap.size ≤ q ∧ q < w3.heap.size) Ak lk ∧ lk.length = sumD (b.puts.drop k) ∧ lk.length ≤ 160 ∧ putP b.key (b.puts.drop k) lk Tk = putP b.key b.puts E (freshT s.table) ∧ (∀ n, versionT Tk n ≤ 39000 + 20 * k) ∧
  TabAt wr (fun q => (w1.heap.size ≤ q ∧ q < w2.heap.size) ∨ w5.heap.size ≤ q) v2.tb Tk ∧ Only (fun q => w1.heap.size ≤ q ∧ q < w2.heap.size) w5 wr) (fun _ i _ => b.puts.length - (intOf i).toNat)
 case atStart => exact ⟨0, Al, cl, E, freshT s.table, Nat.zero_le _, rfl, rfl, hcl, hcm, hE5, by rw [← HE.out]; exact makeF_sum _ _ _ _ _, hEl, rfl, fun n => by have := HS.out.vers n; omega, hT5.mono fun q h => .inl h, Only.refl _ _⟩
 case round =>
  clear hE5 hT5 hcl hcm
  obtain ⟨k, Ak, ck, lk, Tk, hkl, rfl, rfl, hck, hcm, hEk, hlk, hlk2, hpp, hvk, hTk, hOk⟩ := hrel
  have hOw : Only (fun q => q = g) w wr := H5.out.2.1.trans hOk (fun q hq h => by omega)
  by_cases hlt : k < b.puts.length
  ·have hzk := hOk.size
   have hlk' := jg hlt
   have hpd := putP_drop b.key b.puts k lk Tk hlt
   have hsd := sumD_drop b.puts k hlt
   have hdk := HK.out.2.1 _ (List.getElem_mem hlt)
   have hnk := HNE.out _ (List.getElem_mem hlt)
   obtain ⟨bb, o, cs, hAe, hP, hbw, hrep, hcs⟩ := (HR.out.1.same (Same.of_only hOw fun q hq e => HG.out.2 (e ▸ hq.1)) hOw.size).at_ hlk'
   generalize b.puts[k] = p at hlk' hpd hsd hdk hnk hrep
   subst hAe
   obtain ⟨Ad, cd, rfl, _, _, _, _, _⟩ := put_rep.1 hrep
   have c0 := hcs 0 _ rfl; have c1 := hcs 1 _ rfl; have c2 := hcs 2 _ rfl; simp only [PutR_size, Nat.add_zero] at c0 c1 c2
   have hlt' : (k : Int) < b.puts.length := by omega
   have HPD := jh (ja hpd (ja hlk hpp))
   have hn : p.data.length ≤ lk.length := by omega
   have HSD := jh hsd
   clear hpd hlk hpp hcs hrep hlk' hP hsd
   obtain ⟨lb, lo, hAk, hlb, hlbw, hlc⟩ := hEk (by omega)
   subst hAk
   have hEk := hEk
   go_upto_region 8 with fail
   have hbx := (jb wr.heap.size wr).al (.cells #[.string p.stream, .int .i64 p.expect, .slice Ad p.data.length cd] 69)
   have hTx := hTk.ext hbx
   have hEx := hEk.ext hbx
   have hSx := (H5.out.1.only hOk (fun h => by have := h.1; omega)).ext hbx
   have hBx := (H5.out.2.2.1.only hOk (fun h => by have := h.1; omega)).ext hbx
   have HOx := jh (ja hbx hOk)
   generalize hwx : (wr.alloc (.cells #[.string p.stream, .int .i64 p.expect, .slice Ad p.data.length cd] 69)) = wx at *
   clear hwx c0 c1 c2 hlc hTk hOk hbx hEk hOw
   obtain ⟨v3, hv3, hv3t⟩ : ∃ v3 : SV, St.cells s v3 = (St.cells { s with table := freshT s.table } v2).set 10 (.slice A1 (s.log.length + E.length) c1) ∧ v3.tb = v2.tb := ⟨{ v2 with log := .slice A1 (s.log.length + E.length) c1 }, rfl, rfl⟩
   have hDx : PtB g s v3 w.heap.size b.key (.slice (some ⟨bb, o, none⟩) b.puts.length c) wx := ⟨by rw [hv3]; exact hSx, hBx⟩
   haveI : Nonempty (Wd (PtB g s v3 w.heap.size b.key (.slice (some ⟨bb, o, none⟩) b.puts.length c))) := ⟨⟨_, hDx⟩⟩
   have y5 := PtB.c5 (g := g) (s := s) (v := v3) (nb := w.heap.size) (k := b.key) (l := .slice (some ⟨bb, o, none⟩) b.puts.length c)
   have y0 := PtB.c0 (g := g) (s := s) (v := v3) (nb := w.heap.size) (k := b.key) (l := .slice (some ⟨bb, o, none⟩) b.puts.length c)
   rw [hv3t] at y5
   unfold ptrV at y5
   have HV3 := jh (ja hv3 hv3t)
   clear hv3 hv3t hSx hBx
   refine wp_region_mix (.seg [0, 1, 2, 3, 4, 5, 6, 7, 8] 9 (.leaf [])) (fun w' => ∃ d : Wd (PtB g s v3 w.heap.size b.key (.slice (some ⟨bb, o, none⟩) b.puts.length c)), w' = d.w) (by kernel_rfl) (by kernel_rfl) (fun _ _ d _ _ h => by cases d <;> exact h) (ClsW.mk (D := PtB g s v3 w.heap.size b.key (.slice (some ⟨bb, o, none⟩) b.puts.length c)) ⟨Blk.drew hDx.st, Blk.drew hDx.ba⟩) ?_
   unfold wpMix; simp only [pick, j1, j2, j3, j4]
   (repeat (show wpQuiet _ _ _ _ (_ :: _) _; go_big_quiet_step (fail))); refine qn ?_
   have hTd := hTx.ext (jb _ wx).drew
   have hEd := (hEx.ext (jb _ wx).drew).pre p.data.length
   have hOd : Only (fun q => q = g) w wx.drew := (H5.out.2.1.trans HOx.out.2 (fun q hq h => by have := h.1; omega)).tr (jo (HOx.out.1.tr (jb _ wx).drew))
   have hC := append_any v2.tb Tk b.key (some ⟨lb, lo, none⟩) ck (lk.take p.data.length) _ _ wx.drew hTd hEd (fun q h h' => by omega) (by simp; omega) HK.out.1 (fun n => by have := hvk n; omega) ((HTB.out w (jb _ _)).only hOd (by omega) (by omega)) (by have := hOd.size; omega)
   rw [List.length_take, Nat.min_eq_left hn] at hC
   unfold ptrV at hC
   have HX := jh (ja hEx hDx)
   clear hTd hEd hOd hTx hEx
   go_wp2_with fail
   refine hC.mono ?_
   clear hC
   rintro e w7 ⟨rfl, hT7, hO7⟩
   have hD7 : PtB g s v3 w.heap.size b.key (.slice (some ⟨bb, o, none⟩) b.puts.length c) w7 := ⟨(Blk.drew hDx.st).only hO7 (fun h => by omega), (Blk.drew hDx.ba).only hO7 (fun h => by omega)⟩
   have H7 := jh (ja hT7 hO7)
   go_wp2_with fail
   dsimp only [wpList, SegQ]
   refine ⟨fun w' => ∃ d : Wd (PtB g s v3 w.heap.size b.key (.slice (some ⟨bb, o, none⟩) b.puts.length c)), w' = d.w, ClsW.mk (D := PtB g s v3 w.heap.size b.key (.slice (some ⟨bb, o, none⟩) b.puts.length c)) hD7, fun _ h => h, ?_⟩
   unfold wpMix; simp only [pick, List.filterMap_nil]
   (repeat (show wpQuiet _ _ _ _ (_ :: _) _; go_big_quiet_step (fail))); refine qn ?_
   clear y5 y0 hD7 hT7 hO7 hDx
   go_wp2_with fail
   have hO7 := H7.out.2
   have hOz : Only (fun q => w1.heap.size ≤ q ∧ q < w2.heap.size) w5 w7 := ((HOx.out.2.trans (jo (F := fun _ => False) (HOx.out.1.tr (jb _ wx).drew)) (fun q _ h => h.elim)).trans hO7 (fun q hq h => by
    rcases h with h | h
    ·exact h
    ·omega))
   have hEz := ((HX.out.1.ext (jb _ wx).drew).same (Same.of_only hO7 fun q hq h => by omega) hO7.size).cut (k := p.data.length) (n := (lk.drop p.data.length).length) (cap := ck) hn hck
   rw [List.take_length] at hEz
   obtain ⟨hpd, hlk, hpp⟩ := HPD.out
   have hsd : sumD (b.puts.drop k) = p.data.length + sumD (b.puts.drop (k + 1)) := HSD.out
   refine ⟨⟨k + 1, _, _, lk.drop p.data.length, (appendT b.key (lk.take p.data.length) Tk).1, by omega, by go_num, by rw [List.length_drop], by rw [List.length_drop]; omega, by omega, ?_, by rw [List.length_drop]; omega, by rw [List.length_drop]; omega, by rw [← hpd]; exact hpp, fun n => ?_, ?_, hOz⟩, ?_⟩
   ·have e : (if ck = p.data.length then some (⟨lb, lo, none⟩ : Addr) else (some (⟨lb, lo, none⟩ : Addr)).map (·.add (p.data.length * EventR.size))) = (if ck = p.data.length then some ⟨lb, lo, none⟩ else some ⟨lb, lo + p.data.length * 7, none⟩) := by
     split
     ·rfl
     ·simp only [Option.map_some, add_off]; rfl
    rw [← e]
    exact hEz
   ·have h1 := versionT_append b.key (lk.take p.data.length) Tk n
    have h2 := hvk n
    have h3 : (lk.take p.data.length).length ≤ 20 := by simp; omega
    have h4 : ((lk.take p.data.length).length : Int) ≤ 20 := by exact_mod_cast h3
    push_cast
    omega
   ·exact H7.out.1.mono fun q h => by
     rcases h with h | h
     ·exact h
     ·have := HOx.out.2.size; have := HOx.out.1.size; have hd : wx.drew.heap.size = wx.heap.size := rfl; omega
   ·simp [intOf]; omega
  ·have hkn : k = b.puts.length := by omega
   subst hkn
   have hTE : Tk = putP b.key b.puts E (freshT s.table) := by rw [← hpp, List.drop_length]; rfl
   have hBe := H5.out.1.only hOk (fun h => by have := h.1; omega)
   have hRe := H5.out.2.2.2.1.same (Same.of_only hOk fun q hq h => by have := hq.2; have := h.1; omega)
   have hLe := EventR.sl.same H5.out.2.2.2.2 (Same.of_only hOk fun q hq h => by
    rcases hq with hq | hq | hq
    ·have := hq.2; omega
    ·have := hq.1; omega
    ·omega)
   rw [hTE] at hTk
   have HH := jh (ja hBe (ja hRe (ja hLe (ja hTk hOw))))
   clear hBe hRe hLe hTE hTk hOw hOk hEk hvk hpp hlk
   go_wp2_with fail
   (try simp only [Exit.inBlock, Exit.then]); refine bodyPost_end (results_none rfl _ _ _) rfl ?_
   obtain ⟨hBe, hRe, hLe, hTk, hOw⟩ := HH.out
   have hRm := hRe.mono (Q := fun q => P q ∨ w.heap.size ≤ q) (fun q hq _ => .inl hq.1)
   refine ⟨rfl, ⟨{ v2 with log := .slice A1 (s.log.length + E.length) c1 }, ?_, ?_⟩, hOw, ?_⟩
   ·exact hBe
   ·refine ⟨hRm.fit, hRm.ring, ?_, hRm.held, hRm.outcomes, hRm.decided, hRm.frozen, ?_⟩
    ·show TabAt _ _ v2.tb (putP b.key b.puts (makeB b f st 0) (freshT s.table))
     rw [HE.out]
     exact hTk.mono fun q hq => .inr (by rcases hq with h | h <;> omega)
    ·show EventR.sl.rep _ _ _ (s.log ++ makeB b f st 0)
     rw [HE.out]
     refine EventR.sl.mono (List.length_append ▸ hLe) fun q hq _ => ?_
     rcases hq with h | h | h
     ·exact .inl h.1
     ·exact .inr (by have := h.1; omega)
     ·exact .inr (by omega)
   ·have a1 : wr.cell? ⟨g, 6, none⟩ = some v2.held := hBe.cell 6
    have a2 : w2.cell? ⟨g, 6, none⟩ = some v2.held := H2.out.1.cell 6
    have a3 : w1.cell? ⟨g, 6, none⟩ = some v.held := (HB.out.1.ext HB1.out.1).cell 6
    have a4 : w.cell? ⟨g, 6, none⟩ = some v.held := HB.out.1.cell 6
    exact a1.trans (a2.symm.trans (H6.out.trans (a3.trans a4.symm)))
end Go.Proofs.YtcmjgghkmdbphaaGreatDoor
namespace Go.Proofs.YtcmjgghkmdbphaaGreatDoor
open Go.RowKit
theorem hashS_bd (s : Str) : 0 ≤ hashS s ∧ hashS s < 4294967296 := hash_bd s.data.toList
def evT (T : Tab) (n : Str) : List Event := match getA n T with | some s => s.events | none => []
def kyT (T : Tab) (n : Str) : List (Str × Known) := match getA n T with | some s => s.keys | none => []
theorem version_ev (T : Tab) (n : Str) : versionT T n = (evT T n).length := by
 unfold versionT evT; cases getA n T <;> rfl
theorem known_ky (T : Tab) (n k : Str) : knownT T n k = match getA k (kyT T n) with | some x => (x, true) | none => (zeroKnown, false) := by
 unfold knownT kyT; cases getA n T <;> rfl
theorem ts_getD (T : Tab) (n : Str) : (getA n T).getD ⟨[], []⟩ = ⟨evT T n, kyT T n⟩ := by
 unfold evT kyT; cases getA n T <;> rfl
theorem like_ev {T T' : Tab} (h : T.Like T') (n : Str) : evT T n = evT T' n := by
 have := h n
 unfold evT
 cases h1 : getA n T <;> cases h2 : getA n T' <;> rw [h1, h2] at this
 ·exact this.elim
 ·exact this.elim
 ·exact this.1
theorem evT_put (T : Tab) (n x : Str) (s : TS) : evT (putA n s T) x = if x = n then s.events else evT T x := by
 unfold evT; rw [getA_put]; by_cases h : x = n <;> simp [h]
theorem kyT_put (T : Tab) (n x : Str) (s : TS) : kyT (putA n s T) x = if x = n then s.keys else kyT T x := by
 unfold kyT; rw [getA_put]; by_cases h : x = n <;> simp [h]
theorem getA_addKey (k : Str) (e : Event) (m : List (Str × Known)) (x : Str) : getA x (addKey k e m) = if x = k ∧ getA k m = none ∧ k.toList ≠ [] then some ⟨k, e.version, e.stamp⟩ else getA x m := by
 unfold addKey
 by_cases h : (getA k m).isNone = true ∧ k.toList ≠ []
 ·rw [if_pos h, getA_put]
  by_cases hx : x = k
  ·rw [if_pos hx, if_pos ⟨hx, by simpa using h.1, h.2⟩]
  ·rw [if_neg hx, if_neg (fun q => hx q.1)]
 ·rw [if_neg h, if_neg (fun q => h ⟨by simp [q.2.1], q.2.2⟩)]
theorem addKey_nd {k : Str} {e : Event} {m : List (Str × Known)} (h : (m.map (·.1)).Nodup) : ((addKey k e m).map (·.1)).Nodup := by
 unfold addKey; split
 ·exact putA_nodup h
 ·exact h
theorem addKey_mem {k : Str} {e : Event} {m : List (Str × Known)} {p : Str × Known} (h : p ∈ addKey k e m) : p ∈ m ∨ (p = (k, ⟨k, e.version, e.stamp⟩) ∧ k.toList ≠ []) := by
 unfold addKey at h; split at h
 ·rename_i hc
  rcases putA_mem h with h | h | h
  ·exact .inr ⟨h, hc.2⟩
  ·exact .inl h.1
  ·exact .inl h
 ·exact .inl h
theorem getA_ok {T : Tab} (hT : T.Ok) {n : Str} {s : TS} (h : getA n T = some s) : s.Ok n := hT.each _ (getA_mem h)
theorem Tab.Ok.put {T : Tab} (hT : T.Ok) {n : Str} {s : TS} (h : s.Ok n) : Tab.Ok (putA n s T) := by
 refine ⟨putA_nodup hT.nd, fun p hp => ?_⟩
 rcases putA_mem hp with rfl | h' | h'
 ·exact h
 ·exact hT.each _ h'.1
 ·exact hT.each _ h'
theorem ev_ok {T : Tab} (hT : T.Ok) (n : Str) : (∀ e ∈ evT T n, okE n e = true) ∧ (∀ (j : Nat) (e : Event), (evT T n)[j]? = some e → e.version = j + 1) ∧ (∀ p ∈ kyT T n, p.2.key = p.1 ∧ knownB p.2 = true ∧ keyFit (evT T n) p.2) ∧ ((kyT T n).map (·.1)).Nodup := by
 unfold evT kyT
 cases h : getA n T with
 | none => simp
 | some s => have := getA_ok hT h; exact ⟨this.evs, this.goes, this.keys, this.nd⟩
theorem keyFit_app {ev l : List Event} {k : Known} (h : keyFit ev k) (h1 : 1 ≤ k.first) : keyFit (ev ++ l) k := by
 obtain ⟨h2, h3⟩ := h
 refine ⟨by rw [List.length_append]; omega, ?_⟩
 rw [← h3, List.map_append]
 have : (k.first - 1).toNat < (ev.map Event.stamp).length := by rw [List.length_map]; omega
 simp only [List.getD_eq_getElem?_getD]
 rw [List.getElem?_append_left this]
theorem append_spec {T : Tab} (hT : T.Ok) {k : Str} {e : Event} {l : List Event} (hk : keyB k = true) (ha : ∀ x ∈ e :: l, x.stream = e.stream ∧ x.stamp = e.stamp ∧ eventB x = true)
 (hg : ∀ (j : Nat) (x : Event), (e :: l)[j]? = some x → x.version = versionT T e.stream + 1 + j) :
 (appendT k (e :: l) T).2 = 0 ∧ (appendT k (e :: l) T).1.Ok ∧ (∀ n, evT (appendT k (e :: l) T).1 n = if n = e.stream then evT T n ++ (e :: l) else evT T n) ∧
 ∀ n, kyT (appendT k (e :: l) T).1 n = if n = e.stream then addKey k e (kyT T n) else kyT T n := by
 have h1 : alikeB (e :: l) = true := by
  unfold alikeB
  simp only [List.all_eq_true, Bool.and_eq_true, decide_eq_true_eq]
  exact ha
 have h2 : goesB (e :: l) (versionT T e.stream) = true := (goes_iff _ _).2 hg
 have he : appendT k (e :: l) T = (putA e.stream ⟨evT T e.stream ++ (e :: l), addKey k e (kyT T e.stream)⟩ T, 0) := by
  unfold appendT
  simp only [h1, hk, h2, ts_getD]
  simp
 rw [he]
 have hev := ev_ok hT e.stream
 have hb := eventB_iff.1 (ha e (by simp)).2.2
 have hve : e.version = versionT T e.stream + 1 := by have := hg 0 e rfl; simpa using this
 refine ⟨rfl, hT.put ⟨hb.1, by simp, ?_, ?_, ?_, addKey_nd hev.2.2.2⟩, fun n => ?_, fun n => ?_⟩
 ·intro x hx
  rcases List.mem_append.1 hx with hx | hx
  ·exact hev.1 x hx
  ·have := ha x hx
   unfold okE
   rw [this.2.2, this.1]; simp
 ·intro j x hx
  rw [List.getElem?_append] at hx
  split at hx
  ·exact hev.2.1 j x hx
  ·rename_i hj
   have := hg _ x hx
   rw [version_ev] at this
   omega
 ·intro p hp
  rcases addKey_mem hp with hp | ⟨rfl, hne⟩
  ·have := hev.2.2.1 p hp
   exact ⟨this.1, this.2.1, keyFit_app this.2.2 (knownB_iff.1 this.2.1).2.2.1⟩
  ·refine ⟨rfl, knownB_iff.2 ⟨by simpa using hne, hk, hb.2.1, hb.2.2.1, hb.2.2.2.2.2.1⟩, ?_, ?_⟩
   ·rw [version_ev] at hve; simp only [List.length_append, List.length_cons]; omega
   ·rw [version_ev] at hve
    have : (e.version - 1).toNat = (evT T e.stream).length := by omega
    simp only [this, List.getD_eq_getElem?_getD, List.getElem?_map]
    rw [List.getElem?_append_right (Nat.le_refl _)]
    simp
 ·rw [evT_put]
  by_cases h : n = e.stream <;> simp [h]
 ·rw [kyT_put]
  by_cases h : n = e.stream <;> simp [h]
structure PutOk (p : Put) : Prop where
 few : p.data.length ≤ 20
 data : ∀ s ∈ p.data, s.size ≤ 1000 ∧ validB s = true
 name : nameB p.stream = true
 full : p.data ≠ []
theorem Batch.Good.putOk {b : Batch} (h : b.Good) : ∀ p ∈ b.puts, PutOk p := fun p hp => by
 obtain ⟨⟨h1, h2⟩, h3, h4, h5, _⟩ := h.puts p hp
 exact ⟨h1, fun s hs => ⟨h2 s hs, by rw [h5] at hs; exact (List.mem_filter.1 hs).2⟩, h3, h4⟩
theorem metOf_zero {l : List Put} {n : Str} : metOf l n = 0 ↔ ∀ x ∈ l, x.stream ≠ n := by
 unfold metOf
 rw [List.length_eq_zero_iff, List.filter_eq_nil_iff]
 simp
theorem putsB_dist (l r : List Put) (h : putsB l r = true) : (r.map Put.stream).Nodup ∧ ∀ p ∈ r, ∀ x ∈ l, x.stream ≠ p.stream := by
 induction r generalizing l with
 | nil => simp
 | cons p r ih =>
   unfold putsB at h
   simp only [Bool.and_eq_true] at h
   obtain ⟨i1, i2⟩ := ih _ h.2
   have hm := metOf_zero.1 (putB_iff.1 h.1).2.1
   simp only [List.map_cons, List.nodup_cons, List.mem_map, not_exists, not_and]
   refine ⟨⟨fun x hx e => i2 x hx p (by simp) e.symm, i1⟩, fun q hq x hx => ?_⟩
   rcases List.mem_cons.1 hq with rfl | hq
   ·exact hm x hx
   ·exact i2 q hq x (by simp [hx])
theorem checkB_dist {b : Batch} (h : checkB b = 0) : (b.puts.map Put.stream).Nodup := by
 unfold checkB at h
 by_cases hm : mayB b = true
 ·unfold mayB at hm
  simp only [Bool.and_eq_true] at hm
  exact (putsB_dist _ _ hm.1).1
 ·rw [if_neg hm] at h; cases h
theorem makeP_at (p : Put) (a b : Int) (st : Stamp) (ix : Int) (d : List Str) (k n j : Nat) : (makeP p a b st ix d k n)[j]? = d[j]?.map fun x => ⟨p.stream, a + b * ((k + j : Nat) : Int), x, st, ix + ((n + j : Nat) : Int)⟩ := by
 induction d generalizing k n j with
 | nil => simp [makeP]
 | cons x d ih =>
   cases j with
   | zero => simp [makeP]
   | succ j =>
     simp only [makeP, List.getElem?_cons_succ, ih]
     rw [show k + 1 + j = k + (j + 1) by omega, show n + 1 + j = n + (j + 1) by omega]
theorem makeP_mem {p : Put} {a b : Int} {st : Stamp} {ix : Int} {d : List Str} {k n : Nat} {e : Event} (h : e ∈ makeP p a b st ix d k n) : ∃ j x, j < d.length ∧ d[j]? = some x ∧ e = ⟨p.stream, a + b * ((k + j : Nat) : Int), x, st, ix + ((n + j : Nat) : Int)⟩ := by
 obtain ⟨j, hj⟩ := List.getElem?_of_mem h
 rw [makeP_at] at hj
 obtain ⟨x, hx, rfl⟩ := Option.map_eq_some_iff.1 hj
 exact ⟨j, x, (List.getElem?_eq_some_iff.1 hx).1, hx, rfl⟩
theorem makeP_stream {p : Put} {a b : Int} {st : Stamp} {ix : Int} {d : List Str} {k n : Nat} {e : Event} (h : e ∈ makeP p a b st ix d k n) : e.stream = p.stream ∧ e.stamp = st := by
 obtain ⟨j, x, _, _, rfl⟩ := makeP_mem h; exact ⟨rfl, rfl⟩
theorem makeF_stream (l : List Put) (f : List Int) (st : Stamp) (ix : Int) (n : Nat) {e : Event} (h : e ∈ makeF l f st ix n) : (∃ p ∈ l, p.stream = e.stream) ∧ e.stamp = st := by
 induction l generalizing f n with
 | nil => cases h
 | cons p r ih =>
   unfold makeF at h
   rcases List.mem_append.1 h with h | h
   ·exact ⟨⟨p, by simp, (makeP_stream h).1.symm⟩, (makeP_stream h).2⟩
   ·obtain ⟨⟨q, hq, e1⟩, e2⟩ := ih _ _ h
    exact ⟨⟨q, by simp [hq], e1⟩, e2⟩
def firstsT (T : Tab) (l : List Put) : List Int := l.map fun p => versionT T p.stream + 1
def knowsT (T : Tab) (k : Str) (st : Stamp) (hit : Bool) (n x : Str) : Known × Bool := if x = k ∧ k.toList ≠ [] ∧ hit = true ∧ (knownT T n k).2 = false then (⟨k, versionT T n + 1, st⟩, true) else knownT T n x
theorem putP_spec {k : Str} {st : Stamp} (hk : keyB k = true) (hst : soundB st = true) : ∀ (l : List Put) (ix : Nat) (T : Tab), T.Ok → (l.map Put.stream).Nodup → (∀ p ∈ l, PutOk p) → (∀ n, versionT T n + 20 * l.length ≤ 1099511627000) → ix + sumD l ≤ 160 →
 (putP k l (makeF l (firstsT T l) st 0 ix) T).Ok ∧ (∀ n, evT (putP k l (makeF l (firstsT T l) st 0 ix) T) n = evT T n ++ (makeF l (firstsT T l) st 0 ix).filter fun e => decide (e.stream = n)) ∧
 ∀ n x, knownT (putP k l (makeF l (firstsT T l) st 0 ix) T) n x = knowsT T k st (l.any fun p => decide (p.stream = n)) n x
 | [], ix, T, hT, _, _, _, _ => by
   refine ⟨hT, fun n => by simp [putP, makeF], fun n x => ?_⟩
   unfold knowsT
   rw [if_neg (by simp)]; rfl
 | p :: r, ix, T, hT, hd, hp, hv, hs => by
   have hpo := hp p (by simp)
   simp only [List.map_cons, List.nodup_cons] at hd
   have hsd : sumD (p :: r) = p.data.length + sumD r := by simp [sumD]
   have hEq : makeF (p :: r) (firstsT T (p :: r)) st 0 ix = makeP p (versionT T p.stream + 1) 1 st 0 p.data 0 ix ++ makeF r (firstsT T r) st 0 (ix + p.data.length) := by
    rw [makeF]; rfl
   have hlen := makeP_len p (versionT T p.stream + 1) 1 st 0 p.data 0 ix
   have hM := @makeP_at p (versionT T p.stream + 1) 1 st 0 p.data 0 ix
   have hMm := fun e => @makeP_mem p (versionT T p.stream + 1) 1 st 0 p.data 0 ix e
   generalize hm : makeP p (versionT T p.stream + 1) 1 st 0 p.data 0 ix = m at hEq hlen hM hMm
   have hput : putP k (p :: r) (makeF (p :: r) (firstsT T (p :: r)) st 0 ix) T = putP k r (makeF r (firstsT T r) st 0 (ix + p.data.length)) (appendT k m T).1 := by
    rw [hEq]
    show putP k r ((m ++ _).drop p.data.length) (appendT k ((m ++ _).take p.data.length) T).1 = _
    rw [← hlen, List.drop_left, List.take_left]
   have hne : p.data.length ≠ 0 := fun e => hpo.full (List.length_eq_zero_iff.1 e)
   cases m with
   | nil => exact absurd hlen.symm (by simpa using hne)
   | cons e m =>
     have hst1 : ∀ x ∈ e :: m, x.stream = p.stream ∧ x.stamp = st ∧ eventB x = true := fun x hx => by
      obtain ⟨j, d, hj, hd2, rfl⟩ := hMm x hx
      have h1 := hv p.stream
      have h2 := (version_ev T p.stream)
      refine ⟨rfl, rfl, eventB_iff.2 ⟨hpo.name, ?_, ?_, (hpo.data d (List.mem_of_getElem? hd2)).1, (hpo.data d (List.mem_of_getElem? hd2)).2, hst, ?_, ?_⟩⟩ <;> (have := hpo.few; simp only []; omega)
     have he := hst1 e (by simp)
     obtain ⟨a1, a2, a3, a4⟩ := append_spec (k := k) (e := e) (l := m) hT hk (fun x hx => ⟨(hst1 x hx).1.trans he.1.symm, (hst1 x hx).2.1.trans he.2.1.symm, (hst1 x hx).2.2⟩) (fun j x hx => by
      rw [hM] at hx
      obtain ⟨d, _, rfl⟩ := Option.map_eq_some_iff.1 hx
      rw [he.1]; simp only []; omega)
     have hev1 : e.version = versionT T p.stream + 1 := by
      have := hM 0
      simp only [List.getElem?_cons_zero] at this
      obtain ⟨d, _, h⟩ := Option.map_eq_some_iff.1 this.symm
      rw [← h]; simp
     rw [he.1] at a3 a4
     have hvr : firstsT (appendT k (e :: m) T).1 r = firstsT T r := by
      unfold firstsT
      refine List.map_congr_left fun q hq => ?_
      rw [version_ev, version_ev, a3, if_neg]
      exact fun h => hd.1 (List.mem_map.2 ⟨q, hq, h⟩)
     have hkn : ∀ n x, knownT (appendT k (e :: m) T).1 n x = knowsT T k st (decide (p.stream = n)) n x := fun n x => by
      unfold knowsT
      simp only [known_ky]
      rw [a4]
      by_cases hn : n = p.stream
      ·subst hn
       simp only [if_true, decide_true, true_and]
       rw [getA_addKey]
       cases h1 : getA k (kyT T p.stream) with
       | none =>
         by_cases hx : x = k ∧ k.toList ≠ []
         ·rw [if_pos ⟨hx.1, rfl, hx.2⟩, if_pos ⟨hx.1, hx.2, rfl⟩, hev1, he.2.1]
         ·rw [if_neg (fun q => hx ⟨q.1, q.2.2⟩), if_neg (fun q => hx ⟨q.1, q.2.1⟩)]
       | some y =>
         rw [if_neg (fun q => by cases q.2.1), if_neg (fun q => by cases q.2.2)]
      ·rw [if_neg hn, if_neg (fun q => hn (of_decide_eq_true q.2.2.1).symm)]
     have hv1 : ∀ n, versionT (appendT k (e :: m) T).1 n + 20 * r.length ≤ 1099511627000 := fun n => by
      have h1 := hv n
      have h2 := hpo.few
      rw [version_ev] at h1 ⊢
      rw [List.length_cons] at h1
      rw [a3]; split
      ·rw [List.length_append]; omega
      ·omega
     obtain ⟨b1, b2, b3⟩ := putP_spec hk hst r (ix + p.data.length) (appendT k (e :: m) T).1 a2 hd.2 (fun q hq => hp q (by simp [hq])) hv1 (by omega)
     rw [hvr] at b1 b2 b3
     rw [hput]
     refine ⟨b1, fun n => ?_, fun n x => ?_⟩
     ·rw [b2, a3, hEq, List.filter_append]
      by_cases hn : n = p.stream
      ·rw [if_pos hn, show (e :: m).filter (fun e => decide (e.stream = n)) = e :: m from List.filter_eq_self.2 (fun x hx => by rw [(hst1 x hx).1, hn]; simp), List.append_assoc]
      ·rw [if_neg hn, show (e :: m).filter (fun e => decide (e.stream = n)) = [] from List.filter_eq_nil_iff.2 (fun x hx => by rw [(hst1 x hx).1]; simpa using fun h => hn h.symm), List.nil_append]
     ·rw [b3]
      simp only [List.any_cons]
      unfold knowsT
      simp only [hkn]
      unfold knowsT
      by_cases hn : p.stream = n
      ·have hno : (r.any fun q => decide (q.stream = n)) = false := by
        rw [List.any_eq_false]
        intro q hq
        simp only [decide_eq_true_eq]
        exact fun h => hd.1 (List.mem_map.2 ⟨q, hq, h.trans hn.symm⟩)
       simp [hn, hno]
      ·have hv2 : versionT (appendT k (e :: m) T).1 n = versionT T n := by rw [version_ev, version_ev, a3, if_neg (fun h => hn h.symm)]
       simp [hn, hv2]
end Go.Proofs.YtcmjgghkmdbphaaGreatDoor
