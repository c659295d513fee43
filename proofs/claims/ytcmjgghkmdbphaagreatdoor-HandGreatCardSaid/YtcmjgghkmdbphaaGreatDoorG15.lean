/- state.put. rec.spare: are the fields zero that are not named? rec.writer.head: the fields that have no list. -/
import Derived.Test.YtcmjgghkmdbphaaGreatDoorG14
import Derived.Test.YtcmjgghkmdbphaaGreatDoorG11
import Derived.Test.YtcmjgghkmdbphaaGreatDoorG07
set_option maxRecDepth 20000
set_option maxHeartbeats 25600000
namespace Go.Proofs.YtcmjgghkmdbphaaGreatDoor
open Go.RowKit
attribute [local go_sem] Range.val
def sumD (l : List Put) : Nat := (l.map fun p => p.data.length).sum
theorem makeF_sum : ∀ (l : List Put) (f : List Int) (st : Stamp) (ix : Int) (n : Nat), (makeF l f st ix n).length = sumD l
 | [], _, _, _, _ => rfl
 | p :: r, f, st, ix, n => by rw [makeF, List.length_append, makeP_len, makeF_sum r]; simp [sumD]
theorem sumD_drop (l : List Put) (k : Nat) (h : k < l.length) : sumD (l.drop k) = l[k].data.length + sumD (l.drop (k + 1)) := by
 unfold sumD; rw [List.drop_eq_getElem_cons h, List.map_cons, List.sum_cons]
theorem putP_drop (key : Str) (l : List Put) (k : Nat) (ev : List Event) (T : Tab) (h : k < l.length) : putP key (l.drop k) ev T = putP key (l.drop (k + 1)) (ev.drop l[k].data.length) (appendT key (ev.take l[k].data.length) T).1 := by
 rw [List.drop_eq_getElem_cons h]; rfl
theorem versionT_append (key : Str) (l : List Event) (T : Tab) (n : Str) : versionT (appendT key l T).1 n ≤ versionT T n + l.length := by
 unfold appendT
 cases l with
 | nil => simp
 | cons e r =>
   dsimp only
   split
   ·simp only [List.length_cons]; omega
   ·split
    ·simp only [List.length_cons]; omega
    ·unfold versionT
     rw [getA_put]
     by_cases hn : n = e.stream
     ·subst hn
      rw [if_pos rfl]
      cases getA e.stream T <;> simp
     ·rw [if_neg hn]
      simp only [List.length_cons]
      cases getA n T <;> simp <;> omega
theorem StIn.low {w : World} {P : Nat → Prop} {s : St} {v : SV} (h : StIn w P s v) : StIn w (fun k => P k ∧ k < w.heap.size) s v := (h.rest.mono fun _ a b => ⟨a, b⟩).full h.table.low
structure StFair (s : St) : Prop where
 len : s.table.length ≤ 40000
 each : ∀ p ∈ s.table, p.2.events.length ≤ 40000 ∧ p.2.keys.length ≤ 40000
 put : PutFair (takeT s.table allHashes)
 log : s.log.length ≤ 40000
 vers : ∀ n, versionT (freshT s.table) n ≤ 39000
structure PtB (g : Nat) (s : St) (v : SV) (nb : Nat) (k : Str) (l : Value) (W : World) : Prop where
 st : Blk W g 176 (s.cells v)
 ba : Blk W nb 25 [.string k, l]
theorem PtB.c5 {g : Nat} {s : St} {v : SV} {nb : Nat} {k : Str} {l : Value} (d : Wd (PtB g s v nb k l)) : d.w.cell? ⟨g, 5, none⟩ = some (ptrV v.tb) := Blk.cell d.ok.st 5
theorem PtB.c0 {g : Nat} {s : St} {v : SV} {nb : Nat} {k : Str} {l : Value} (d : Wd (PtB g s v nb k l)) : d.w.cell? ⟨nb, 0, none⟩ = some (.string k) := Blk.cell d.ok.ba 0
def SPutOut (w : World) (P : Nat → Prop) (g : Nat) (_s s' : St) (e : Ending) (w' : World) : Prop :=
 e = .returned (.tuple #[]) ∧ StAt w' (fun k => P k ∨ w.heap.size ≤ k) g s' ∧ Only (· = g) w w' ∧ w'.cell? ⟨g, 6, none⟩ = w.cell? ⟨g, 6, none⟩
theorem sput_any (g : Nat) (s : St) (b : Batch) (f : List Int) (st : Stamp) (A Af : Option Addr) (c cf : Nat) (P Q : Nat → Prop) (w : World) (h : StAt w P g s) (hg : ¬ P g) (hs : StFair s)
 (hr : PutR.Row w Q A b.puts) (hf : IntR.Row w Q Af f) (hQ : ¬ Q g) (hl : b.puts.length ≤ 8) (hd : ∀ p ∈ b.puts, p.data.length ≤ 20) (hne : ∀ p ∈ b.puts, 0 < p.data.length) (hk : sfit b.key) (hfl : f.length ≤ 100) (hfb : ∀ n ∈ f, -1000000000 ≤ n ∧ n ≤ 1000000000) (hst : st.fit)
 (hT : Tabs w) (h2 : 2 ≤ g) :
 Calls Tryz.prog 172 #[ptrV g, .agg #[.string b.key, .slice A b.puts.length c], .slice Af f.length cf, .agg #[.int .i64 st.wall, .int .i64 st.logic, .int .i64 st.node]] w (SPutOut w P g s (putS s b f st)) := by
 have hgl := h.lt
 obtain ⟨v, hB, hI⟩ := h
 have HB := jh (ja hB hI.low)
 have HG := jh (ja hg hQ)
 have HS := jh hs
 have HR := jh (ja (hr.mono (Q := fun k => Q k ∧ k < w.heap.size) fun g h h' => ⟨h, h'⟩) (hf.mono (Q := fun k => Q k ∧ k < w.heap.size) fun g h h' => ⟨h, h'⟩))
 have HTB := jh (fun W (hW : Below w.heap.size w W) => hT.below hW)
 have HK := jh (ja hk (ja hd (ja hfb hst)))
 have HNE := jh hne
 clear hB hI hg hQ hs hr hf hT hk hd hfb hst hne
 have hb1 := ((jb w.heap.size w).al (.cells #[.string b.key, .slice A b.puts.length c] 25)).al (.cells #[.int .i64 st.wall, .int .i64 st.logic, .int .i64 st.node] 40)
 have B0 := (Blk.new w 25 [.string b.key, .slice A b.puts.length c]).alloc (.cells #[.int .i64 st.wall, .int .i64 st.logic, .int .i64 st.node] 40)
 have B1 := Blk.new1 w (.cells #[.string b.key, .slice A b.puts.length c] 25) 40 [.int .i64 st.wall, .int .i64 st.logic, .int .i64 st.node]
 have hs1 : ((w.alloc (.cells #[.string b.key, .slice A b.puts.length c] 25)).alloc (.cells #[.int .i64 st.wall, .int .i64 st.logic, .int .i64 st.node] 40)).heap.size = w.heap.size + 2 := by simp
 unfold ptrV
 go_enter Tryz.func172, Tryz.ntmps172
 go_upto_region 1 with fail
 refine forget (M := fun W => Code.wp _ _ _ _ W) (fun W => Below w.heap.size w W ∧ Blk W w.heap.size 25 [.string b.key, .slice A b.puts.length c] ∧ Blk W (w.heap.size + 1) 40 [.int .i64 st.wall, .int .i64 st.logic, .int .i64 st.node] ∧ W.heap.size = w.heap.size + 2) ⟨hb1, B0, B1, hs1⟩ ?_
 clear B0 B1 hb1 hs1
 rintro w1 ⟨hb1, B0, B1, hs1⟩
 have C1 := fresh_any g s (fun k => P k ∧ k < w.heap.size) w1 ⟨v, HB.out.1.ext hb1, HB.out.2.same (js hb1)⟩ (fun h => HG.out.1 h.1) HS.out.len HS.out.each HS.out.put (HTB.out w1 hb1) (by omega)
 have HB1 := jh (ja hb1 (ja B0 (ja B1 hs1)))
 unfold ptrV at C1
 clear B0 B1 hs1 hb1
 go_wp2_with fail
 refine C1.mono ?_
 clear C1
 rintro e w2 ⟨rfl, ⟨v2, hB2, hT2, hR2⟩, hO2, h62⟩
 have H6 := jh h62
 clear h62
 have hz2 := hO2.size
 have hz1 : w1.heap.size = w.heap.size + 2 := HB1.out.2.2.2
 have hb2 : Below (w.heap.size + 2) w1 w2 → True := fun _ => trivial
 have B0 : Blk w2 w.heap.size 25 [.string b.key, .slice A b.puts.length c] := HB1.out.2.1.only hO2 (fun h => by have : w.heap.size = g := h; omega)
 have B1 : Blk w2 (w.heap.size + 1) 40 [.int .i64 st.wall, .int .i64 st.logic, .int .i64 st.node] := HB1.out.2.2.1.only hO2 (fun h => by have : w.heap.size + 1 = g := h; omega)
 have hO02 : Only (· = g) w w2 := (jo HB1.out.1).tr hO2
 have hrA := (HR.out.1.same (Same.of_only hO02 fun k hk e => HG.out.2 (e ▸ hk.1)) hO02.size)
 have hrF := (HR.out.2.same (Same.of_only hO02 fun k hk e => HG.out.2 (e ▸ hk.1)) hO02.size)
 have C2 := make_any b f st 0 A Af c cf _ _ w2 hrA hrF hl HK.out.2.1 hfl HK.out.2.2.1 HK.out.2.2.2 ⟨by omega, by omega⟩
 have y0 : w2.cell? ⟨w.heap.size, 0, none⟩ = some (.string b.key) := B0.cell 0
 have y1 : w2.cell? ⟨w.heap.size, 1, none⟩ = some (.slice A b.puts.length c) := B0.cell 1
 have y2 : w2.cell? ⟨w.heap.size + 1, 0, none⟩ = some (.int .i64 st.wall) := B1.cell 0
 have y3 : w2.cell? ⟨w.heap.size + 1, 1, none⟩ = some (.int .i64 st.logic) := B1.cell 1
 have y4 : w2.cell? ⟨w.heap.size + 1, 2, none⟩ = some (.int .i64 st.node) := B1.cell 2
 unfold Stamp.val at C2
 have H2 := jh (ja hB2 (ja hT2 (ja hR2 (ja hO02 (ja B0 B1)))))
 clear hB2 hT2 hR2 hO02 B0 B1 hrA hrF hO2 hb2
 go_wp2_with fail
 refine C2.mono ?_
 clear C2 y0 y1 y2 y3 y4
 rintro e w3 ⟨⟨lv, rfl, hlv⟩, hb3⟩
 obtain ⟨Al, cl, rfl, hcl, hcm⟩ := hlv.form
 obtain ⟨Ag, cg, hvg, hcg1, hcg2, hgr⟩ := H2.out.2.2.1.log
 have hvg' : v2.log = .slice Ag s.log.length cg := by injection hvg
 have hEl : (makeB b f st 0).length ≤ 160 := Nat.le_trans (makeF_len st 0 b.puts f 0 HK.out.2.1) (by omega)
 have C3 := clip_any Ag s.log.length cg w3 hcg1 hcg2 (fun h => by
  rcases Nat.eq_zero_or_pos s.log.length with h0 | h0
  ·exact h0
  ·obtain ⟨_, _, h', _⟩ := hgr h0; rw [h] at h'; cases h')
 have B3 := H2.out.1.ext hb3
 have x10 : w3.cell? ⟨g, 10, none⟩ = some (.slice Ag s.log.length cg) := by rw [← hvg']; exact B3.cell 10
 have hrow := (hgr.ext hb3)
 have hrowE : EventR.Row w3 (fun k => w2.heap.size ≤ k) Al (makeB b f st 0) := hlv.row' event_plain (fun k h => (hlv.lt k h).1)
 have HL3 := jh (ja hlv (ja hb3 B3))
 have hsl := HS.out.log
 have HV := jh (ja hvg' (ja hcl hcm))
 obtain ⟨i0, e1, e2, e3, e4⟩ := info_parts event_info
 have hz3 := hb3.size
 clear hlv hb3 hvg hvg' hgr B3 hcl hcm hcg1 hcg2
 generalize hE : makeB b f st 0 = E at *
 have HE := jh hE
 clear hE
 go_wp2_with fail
 refine C3.mono ?_
 clear C3 x10
 rintro e w' ⟨rfl, rfl⟩
 go_upto_region 4 with (first
  | (at_builtin; go_loud (refine wpList_append_full (R := EventR) w3 rfl (.tmp 23) (.tmp 24) _ rfl 202 i0 _ 72 Tryz.underlying64 e1 e2 e3 e4 rfl Ag s.log _ _ rfl hrow Al cl E rfl hrowE (by unfold maxLen; omega) (by omega) ?_); intro v1 w4 hl4 hb4
     obtain ⟨A1, c1, hv1, hl41, hl42, hl43⟩ := hl4
     obtain rfl : v1 = .slice A1 (s.log ++ E).length c1 := by injection hv1
     have x10 : w4.cell? ⟨g, 10, none⟩ = some v2.log := (HL3.out.2.2.ext hb4).cell 10
     have x10f : w4.frozen? ⟨g, 10, none⟩ = false := (HL3.out.2.2.ext hb4).frozen 10)
  | fail)
 have hz4 := hb4.size
 have hB5 := Blk.set_ (HL3.out.2.2.ext hb4) 10 (.slice A1 (s.log.length + E.length) c1)
 have hG5 : Only (fun k => k = g) w4 (w4.setCell ⟨g, 10, none⟩ (.slice A1 (s.log.length + E.length) c1)) := Only.set_ (F := fun k => k = g) rfl _
 have hz5 := hG5.size
 have h24 : Below w2.heap.size w2 w4 := HL3.out.2.1.tr hb4
 have hO5 := (H2.out.2.2.2.1.tr (jo h24)).tr hG5
 have h25 : Only (fun k => k = g) w2 _ := (jo h24).tr hG5
 have hBox := H2.out.2.2.2.2.1.only h25 (fun h => by have : w.heap.size = g := h; omega)
 have hT5 := H2.out.2.1.same (Same.of_only h25 fun k hk e => by have : k = g := e; omega)
 have hR5 := H2.out.2.2.1.same (Same.of_only h25 fun k hk e => HG.out.1 (by have : k = g := e; exact this ▸ hk.1))
 have hL5 := (EventR.sl.same (show EventR.sl.rep w4 _ [.slice A1 (s.log ++ E).length c1] (s.log ++ E) from ⟨A1, c1, rfl, hl41, hl42, hl43⟩) (Same.of_only hG5 fun k hk e => by
  have e' : k = g := e
  subst e'
  rcases hk with h | h | h
  ·exact HG.out.1 h.1
  ·omega
  ·omega))
 have hE5 := (HL3.out.1.row' event_plain (P := fun k => w2.heap.size ≤ k ∧ k < w3.heap.size) (fun k h => HL3.out.1.lt k h)).same (Same.of_only ((jo hb4).tr hG5) fun k hk e => by have : k = g := e; omega) (by omega)
 generalize hw5 : (w4.setCell ⟨g, 10, none⟩ (.slice A1 (s.log.length + E.length) c1)) = w5 at *
 clear hw5 hG5 h25 h24 hb4 hl41 hl42 hl43 x10 x10f hrow hrowE e1 e2 e3 e4
 have x1 : w5.cell? ⟨w.heap.size, 1, none⟩ = some (.slice A b.puts.length c) := hBox.cell 1
 have H5 := jh (ja hB5 (ja hO5 (ja hBox (ja hR5 hL5))))
 have hvT := jh hT5
 clear hB5 hO5 hBox hR5 hL5
 have hcl := HV.out.2.1
 have hcm := HV.out.2.2
 go_wp2_with fail
 clear x1
 go_loopw [8, 31] (fun ev i wr => ∃ (k : Nat) (Ak : Option Addr) (ck : Nat) (lk : List Event) (Tk : Tab), k ≤ b.puts.length ∧ i = .int .i64 k ∧ ev = .slice Ak lk.length ck ∧ lk.length ≤ ck ∧ ck ≤ 9223372036854775807 ∧
  EventR.Row wr (fun q => w2.heap.size ≤ q ∧ q < w3.heap.size) Ak lk ∧ lk.length = sumD (b.puts.drop k) ∧ lk.length ≤ 160 ∧ putP b.key (b.puts.drop k) lk Tk = putP b.key b.puts E (freshT s.table) ∧ (∀ n, versionT Tk n ≤ 39000 + 20 * k) ∧
  TabAt wr (fun q => (w1.heap.size ≤ q ∧ q < w2.heap.size) ∨ w5.heap.size ≤ q) v2.tb Tk ∧ Only (fun q => w1.heap.size ≤ q ∧ q < w2.heap.size) w5 wr) (fun _ i _ => b.puts.length - (intOf i).toNat)
 case atStart => exact ⟨0, Al, cl, E, freshT s.table, Nat.zero_le _, rfl, rfl, hcl, hcm, hE5, by rw [← HE.out]; exact makeF_sum _ _ _ _ _, hEl, rfl, fun n => by have := HS.out.vers n; omega, hT5.mono fun q h => .inl h, Only.refl _ _⟩
 case round =>
  clear hE5 hT5 hcl hcm
  obtain ⟨k, Ak, ck, lk, Tk, hkl, rfl, rfl, hck, hcm, hEk, hlk, hlk2, hpp, hvk, hTk, hOk⟩ := hrel
  have hOw : Only (fun q => q = g) w wr := H5.out.2.1.trans hOk (fun q hq h => by omega)
  by_cases hlt : k < b.puts.length
  ·have hzk := hOk.size
   have hlk' := jg hlt
   have hpd := putP_drop b.key b.puts k lk Tk hlt
   have hsd := sumD_drop b.puts k hlt
   have hdk := HK.out.2.1 _ (List.getElem_mem hlt)
   have hnk := HNE.out _ (List.getElem_mem hlt)
   obtain ⟨bb, o, cs, hAe, hP, hbw, hrep, hcs⟩ := (HR.out.1.same (Same.of_only hOw fun q hq e => HG.out.2 (e ▸ hq.1)) hOw.size).at_ hlk'
   generalize b.puts[k] = p at hlk' hpd hsd hdk hnk hrep
   subst hAe
   obtain ⟨Ad, cd, rfl, _, _, _, _, _⟩ := put_rep.1 hrep
   have c0 := hcs 0 _ rfl; have c1 := hcs 1 _ rfl; have c2 := hcs 2 _ rfl; simp only [PutR_size, Nat.add_zero] at c0 c1 c2
   have hlt' : (k : Int) < b.puts.length := by omega
   have HPD := jh (ja hpd (ja hlk hpp))
   have hn : p.data.length ≤ lk.length := by omega
   have HSD := jh hsd
   clear hpd hlk hpp hcs hrep hlk' hP hsd
   obtain ⟨lb, lo, hAk, hlb, hlbw, hlc⟩ := hEk (by omega)
   subst hAk
   have hEk := hEk
   go_upto_region 8 with fail
   have hbx := (jb wr.heap.size wr).al (.cells #[.string p.stream, .int .i64 p.expect, .slice Ad p.data.length cd] 69)
   have hTx := hTk.ext hbx
   have hEx := hEk.ext hbx
   have hSx := (H5.out.1.only hOk (fun h => by have := h.1; omega)).ext hbx
   have hBx := (H5.out.2.2.1.only hOk (fun h => by have := h.1; omega)).ext hbx
   have HOx := jh (ja hbx hOk)
   generalize hwx : (wr.alloc (.cells #[.string p.stream, .int .i64 p.expect, .slice Ad p.data.length cd] 69)) = wx at *
   clear hwx c0 c1 c2 hlc hTk hOk hbx hEk hOw
   obtain ⟨v3, hv3, hv3t⟩ : ∃ v3 : SV, St.cells s v3 = (St.cells { s with table := freshT s.table } v2).set 10 (.slice A1 (s.log.length + E.length) c1) ∧ v3.tb = v2.tb := ⟨{ v2 with log := .slice A1 (s.log.length + E.length) c1 }, rfl, rfl⟩
   have hDx : PtB g s v3 w.heap.size b.key (.slice (some ⟨bb, o, none⟩) b.puts.length c) wx := ⟨by rw [hv3]; exact hSx, hBx⟩
   haveI : Nonempty (Wd (PtB g s v3 w.heap.size b.key (.slice (some ⟨bb, o, none⟩) b.puts.length c))) := ⟨⟨_, hDx⟩⟩
   have y5 := PtB.c5 (g := g) (s := s) (v := v3) (nb := w.heap.size) (k := b.key) (l := .slice (some ⟨bb, o, none⟩) b.puts.length c)
   have y0 := PtB.c0 (g := g) (s := s) (v := v3) (nb := w.heap.size) (k := b.key) (l := .slice (some ⟨bb, o, none⟩) b.puts.length c)
   rw [hv3t] at y5
   unfold ptrV at y5
   have HV3 := jh (ja hv3 hv3t)
   clear hv3 hv3t hSx hBx
   refine wp_region_mix (.seg [0, 1, 2, 3, 4, 5, 6, 7, 8] 9 (.leaf [])) (fun w' => ∃ d : Wd (PtB g s v3 w.heap.size b.key (.slice (some ⟨bb, o, none⟩) b.puts.length c)), w' = d.w) (by kernel_rfl) (by kernel_rfl) (fun _ _ d _ _ h => by cases d <;> exact h) (ClsW.mk (D := PtB g s v3 w.heap.size b.key (.slice (some ⟨bb, o, none⟩) b.puts.length c)) ⟨Blk.drew hDx.st, Blk.drew hDx.ba⟩) ?_
   unfold wpMix; simp only [pick, j1, j2, j3, j4]
   (repeat (show wpQuiet _ _ _ _ (_ :: _) _; go_big_quiet_step (fail))); refine qn ?_
   have hTd := hTx.ext (jb _ wx).drew
   have hEd := (hEx.ext (jb _ wx).drew).pre p.data.length
   have hOd : Only (fun q => q = g) w wx.drew := (H5.out.2.1.trans HOx.out.2 (fun q hq h => by have := h.1; omega)).tr (jo (HOx.out.1.tr (jb _ wx).drew))
   have hC := append_any v2.tb Tk b.key (some ⟨lb, lo, none⟩) ck (lk.take p.data.length) _ _ wx.drew hTd hEd (fun q h h' => by omega) (by simp; omega) HK.out.1 (fun n => by have := hvk n; omega) ((HTB.out w (jb _ _)).only hOd (by omega) (by omega)) (by have := hOd.size; omega)
   rw [List.length_take, Nat.min_eq_left hn] at hC
   unfold ptrV at hC
   have HX := jh (ja hEx hDx)
   clear hTd hEd hOd hTx hEx
   go_wp2_with fail
   refine hC.mono ?_
   clear hC
   rintro e w7 ⟨rfl, hT7, hO7⟩
   have hD7 : PtB g s v3 w.heap.size b.key (.slice (some ⟨bb, o, none⟩) b.puts.length c) w7 := ⟨(Blk.drew hDx.st).only hO7 (fun h => by omega), (Blk.drew hDx.ba).only hO7 (fun h => by omega)⟩
   have H7 := jh (ja hT7 hO7)
   go_wp2_with fail
   dsimp only [wpList, SegQ]
   refine ⟨fun w' => ∃ d : Wd (PtB g s v3 w.heap.size b.key (.slice (some ⟨bb, o, none⟩) b.puts.length c)), w' = d.w, ClsW.mk (D := PtB g s v3 w.heap.size b.key (.slice (some ⟨bb, o, none⟩) b.puts.length c)) hD7, fun _ h => h, ?_⟩
   unfold wpMix; simp only [pick, List.filterMap_nil]
   (repeat (show wpQuiet _ _ _ _ (_ :: _) _; go_big_quiet_step (fail))); refine qn ?_
   clear y5 y0 hD7 hT7 hO7 hDx
   go_wp2_with fail
   have hO7 := H7.out.2
   have hOz : Only (fun q => w1.heap.size ≤ q ∧ q < w2.heap.size) w5 w7 := ((HOx.out.2.trans (jo (F := fun _ => False) (HOx.out.1.tr (jb _ wx).drew)) (fun q _ h => h.elim)).trans hO7 (fun q hq h => by
    rcases h with h | h
    ·exact h
    ·omega))
   have hEz := ((HX.out.1.ext (jb _ wx).drew).same (Same.of_only hO7 fun q hq h => by omega) hO7.size).cut (k := p.data.length) (n := (lk.drop p.data.length).length) (cap := ck) hn hck
   rw [List.take_length] at hEz
   obtain ⟨hpd, hlk, hpp⟩ := HPD.out
   have hsd : sumD (b.puts.drop k) = p.data.length + sumD (b.puts.drop (k + 1)) := HSD.out
   refine ⟨⟨k + 1, _, _, lk.drop p.data.length, (appendT b.key (lk.take p.data.length) Tk).1, by omega, by go_num, by rw [List.length_drop], by rw [List.length_drop]; omega, by omega, ?_, by rw [List.length_drop]; omega, by rw [List.length_drop]; omega, by rw [← hpd]; exact hpp, fun n => ?_, ?_, hOz⟩, ?_⟩
   ·have e : (if ck = p.data.length then some (⟨lb, lo, none⟩ : Addr) else (some (⟨lb, lo, none⟩ : Addr)).map (·.add (p.data.length * EventR.size))) = (if ck = p.data.length then some ⟨lb, lo, none⟩ else some ⟨lb, lo + p.data.length * 7, none⟩) := by
     split
     ·rfl
     ·simp only [Option.map_some, add_off]; rfl
    rw [← e]
    exact hEz
   ·have h1 := versionT_append b.key (lk.take p.data.length) Tk n
    have h2 := hvk n
    have h3 : (lk.take p.data.length).length ≤ 20 := by simp; omega
    have h4 : ((lk.take p.data.length).length : Int) ≤ 20 := by exact_mod_cast h3
    push_cast
    omega
   ·exact H7.out.1.mono fun q h => by
     rcases h with h | h
     ·exact h
     ·have := HOx.out.2.size; have := HOx.out.1.size; have hd : wx.drew.heap.size = wx.heap.size := rfl; omega
   ·simp [intOf]; omega
  ·have hkn : k = b.puts.length := by omega
   subst hkn
   have hTE : Tk = putP b.key b.puts E (freshT s.table) := by rw [← hpp, List.drop_length]; rfl
   have hBe := H5.out.1.only hOk (fun h => by have := h.1; omega)
   have hRe := H5.out.2.2.2.1.same (Same.of_only hOk fun q hq h => by have := hq.2; have := h.1; omega)
   have hLe := EventR.sl.same H5.out.2.2.2.2 (Same.of_only hOk fun q hq h => by
    rcases hq with hq | hq | hq
    ·have := hq.2; omega
    ·have := hq.1; omega
    ·omega)
   rw [hTE] at hTk
   have HH := jh (ja hBe (ja hRe (ja hLe (ja hTk hOw))))
   clear hBe hRe hLe hTE hTk hOw hOk hEk hvk hpp hlk
   go_wp2_with fail
   (try simp only [Exit.inBlock, Exit.then]); refine bodyPost_end (results_none rfl _ _ _) rfl ?_
   obtain ⟨hBe, hRe, hLe, hTk, hOw⟩ := HH.out
   have hRm := hRe.mono (Q := fun q => P q ∨ w.heap.size ≤ q) (fun q hq _ => .inl hq.1)
   refine ⟨rfl, ⟨{ v2 with log := .slice A1 (s.log.length + E.length) c1 }, ?_, ?_⟩, hOw, ?_⟩
   ·exact hBe
   ·refine ⟨hRm.fit, hRm.ring, ?_, hRm.held, hRm.outcomes, hRm.decided, hRm.frozen, ?_⟩
    ·show TabAt _ _ v2.tb (putP b.key b.puts (makeB b f st 0) (freshT s.table))
     rw [HE.out]
     exact hTk.mono fun q hq => .inr (by rcases hq with h | h <;> omega)
    ·show EventR.sl.rep _ _ _ (s.log ++ makeB b f st 0)
     rw [HE.out]
     refine EventR.sl.mono (List.length_append ▸ hLe) fun q hq _ => ?_
     rcases hq with h | h | h
     ·exact .inl h.1
     ·exact .inr (by have := h.1; omega)
     ·exact .inr (by omega)
   ·have a1 : wr.cell? ⟨g, 6, none⟩ = some v2.held := hBe.cell 6
    have a2 : w2.cell? ⟨g, 6, none⟩ = some v2.held := H2.out.1.cell 6
    have a3 : w1.cell? ⟨g, 6, none⟩ = some v.held := (HB.out.1.ext HB1.out.1).cell 6
    have a4 : w.cell? ⟨g, 6, none⟩ = some v.held := HB.out.1.cell 6
    exact a1.trans (a2.symm.trans (H6.out.trans (a3.trans a4.symm)))
end Go.Proofs.YtcmjgghkmdbphaaGreatDoor
namespace Go.Proofs.YtcmjgghkmdbphaaGreatDoor
open Go.RowKit
def spareB (r : Rec) (f : Fields) : Bool :=
 (f.fN || decide (r.n = 0)) && ((f.fTo || decide (r.to = 0)) && ((f.fYes || !r.yes) && ((f.fStamp || decide (r.stamp.wall = 0 ∧ r.stamp.logic = 0 ∧ r.stamp.node = 0)) &&
 ((f.fTx || decide (r.tx.node = 0 ∧ r.tx.life = 0 ∧ r.tx.num = 0)) && ((f.fSpan || decide (r.range.first = 0 ∧ r.range.last = 0 ∧ r.range.owner = 0 ∧ r.range.epoch = 0)) &&
 ((f.fNodes || decide (r.nodes.length = 0)) && ((f.fStreams || decide (r.streams.length = 0)) && (f.fBatch || (r.batch.key.toList.isEmpty && decide (r.batch.puts.length = 0))))))))))
theorem spare_a (r : Rec) (nA pA sA : Option Addr) (nc pc sc : Nat) (w : World) : Calls Tryz.prog 252 #[.agg (r.cells nA nc pA pc sA sc).toArray, .agg (Fields.cells {fN := true}).toArray] w fun e w' => e = .returned (.bool (spareB r {fN := true})) ∧ Below w.heap.size w w' := by
 unfold Rec.cells Fields.cells
 have hp : spareB r {fN := true} = spareB r {fN := true} := rfl
 conv at hp => rhs; simp only [spareB]
 rw [hp]
 clear hp
 obtain ⟨r1, r2, r3, r4, ⟨s1, s2, s3⟩, ⟨t1, t2, t3⟩, r7, ⟨r8, r9⟩, ⟨a1, a2, a3, a4⟩, r11⟩ := r
 go_enter Tryz.func252, Tryz.ntmps252
 go_wp2
 all_goals
  go_ret
  refine ⟨ret_bool ?_, by repeat (with_reducible first | assumption | exact jb _ _ | refine Below.al ?_ _ | refine Below.drew ?_ | apply Below.st1)⟩
  go_light
  simp only [Bool.true_or, Bool.false_or, Bool.true_and, bne_iff_ne, ne_eq, Bool.eq_false_iff, Decidable.not_not, Nat.pos_iff_ne_zero] at *
  first
   | (simp_all; done)
   | (simp_all; omega)
   | (symm; rw [Bool.eq_false_iff]; intro hx; simp only [Bool.and_eq_true, decide_eq_true_eq] at hx; simp_all; done)
   | (trace_state; skip)
theorem spare_b (r : Rec) (nA pA sA : Option Addr) (nc pc sc : Nat) (w : World) : Calls Tryz.prog 252 #[.agg (r.cells nA nc pA pc sA sc).toArray, .agg (Fields.cells {fBatch := true, fStamp := true}).toArray] w fun e w' => e = .returned (.bool (spareB r {fBatch := true, fStamp := true})) ∧ Below w.heap.size w w' := by
 unfold Rec.cells Fields.cells
 have hp : spareB r {fBatch := true, fStamp := true} = spareB r {fBatch := true, fStamp := true} := rfl
 conv at hp => rhs; simp only [spareB]
 rw [hp]
 clear hp
 obtain ⟨r1, r2, r3, r4, ⟨s1, s2, s3⟩, ⟨t1, t2, t3⟩, r7, ⟨r8, r9⟩, ⟨a1, a2, a3, a4⟩, r11⟩ := r
 go_enter Tryz.func252, Tryz.ntmps252
 go_wp2
 all_goals
  go_ret
  refine ⟨ret_bool ?_, by repeat (with_reducible first | assumption | exact jb _ _ | refine Below.al ?_ _ | refine Below.drew ?_ | apply Below.st1)⟩
  go_light
  simp only [Bool.true_or, Bool.false_or, Bool.true_and, bne_iff_ne, ne_eq, Bool.eq_false_iff, Decidable.not_not, Nat.pos_iff_ne_zero] at *
  first
   | (simp_all; done)
   | (simp_all; omega)
   | (symm; rw [Bool.eq_false_iff]; intro hx; simp only [Bool.and_eq_true, decide_eq_true_eq] at hx; simp_all; done)
   | (trace_state; skip)
theorem spare_c (r : Rec) (nA pA sA : Option Addr) (nc pc sc : Nat) (w : World) : Calls Tryz.prog 252 #[.agg (r.cells nA nc pA pc sA sc).toArray, .agg (Fields.cells {fTx := true, fBatch := true, fStamp := true}).toArray] w fun e w' => e = .returned (.bool (spareB r {fTx := true, fBatch := true, fStamp := true})) ∧ Below w.heap.size w w' := by
 unfold Rec.cells Fields.cells
 have hp : spareB r {fTx := true, fBatch := true, fStamp := true} = spareB r {fTx := true, fBatch := true, fStamp := true} := rfl
 conv at hp => rhs; simp only [spareB]
 rw [hp]
 clear hp
 obtain ⟨r1, r2, r3, r4, ⟨s1, s2, s3⟩, ⟨t1, t2, t3⟩, r7, ⟨r8, r9⟩, ⟨a1, a2, a3, a4⟩, r11⟩ := r
 go_enter Tryz.func252, Tryz.ntmps252
 go_wp2
 all_goals
  go_ret
  refine ⟨ret_bool ?_, by repeat (with_reducible first | assumption | exact jb _ _ | refine Below.al ?_ _ | refine Below.drew ?_ | apply Below.st1)⟩
  go_light
  simp only [Bool.true_or, Bool.false_or, Bool.true_and, bne_iff_ne, ne_eq, Bool.eq_false_iff, Decidable.not_not, Nat.pos_iff_ne_zero] at *
  first
   | (simp_all; done)
   | (simp_all; omega)
   | (symm; rw [Bool.eq_false_iff]; intro hx; simp only [Bool.and_eq_true, decide_eq_true_eq] at hx; simp_all; done)
   | (trace_state; skip)
theorem spare_d (r : Rec) (nA pA sA : Option Addr) (nc pc sc : Nat) (w : World) : Calls Tryz.prog 252 #[.agg (r.cells nA nc pA pc sA sc).toArray, .agg (Fields.cells {fTx := true, fYes := true, fStamp := true}).toArray] w fun e w' => e = .returned (.bool (spareB r {fTx := true, fYes := true, fStamp := true})) ∧ Below w.heap.size w w' := by
 unfold Rec.cells Fields.cells
 have hp : spareB r {fTx := true, fYes := true, fStamp := true} = spareB r {fTx := true, fYes := true, fStamp := true} := rfl
 conv at hp => rhs; simp only [spareB]
 rw [hp]
 clear hp
 obtain ⟨r1, r2, r3, r4, ⟨s1, s2, s3⟩, ⟨t1, t2, t3⟩, r7, ⟨r8, r9⟩, ⟨a1, a2, a3, a4⟩, r11⟩ := r
 go_enter Tryz.func252, Tryz.ntmps252
 go_wp2
 all_goals
  go_ret
  refine ⟨ret_bool ?_, by repeat (with_reducible first | assumption | exact jb _ _ | refine Below.al ?_ _ | refine Below.drew ?_ | apply Below.st1)⟩
  go_light
  simp only [Bool.true_or, Bool.false_or, Bool.true_and, bne_iff_ne, ne_eq, Bool.eq_false_iff, Decidable.not_not, Nat.pos_iff_ne_zero] at *
  first
   | (simp_all; done)
   | (simp_all; omega)
   | (symm; rw [Bool.eq_false_iff]; intro hx; simp only [Bool.and_eq_true, decide_eq_true_eq] at hx; simp_all; done)
   | (trace_state; skip)
theorem spare_e (r : Rec) (nA pA sA : Option Addr) (nc pc sc : Nat) (w : World) : Calls Tryz.prog 252 #[.agg (r.cells nA nc pA pc sA sc).toArray, .agg (Fields.cells {fTx := true, fYes := true, fStamp := true, fNodes := true}).toArray] w fun e w' => e = .returned (.bool (spareB r {fTx := true, fYes := true, fStamp := true, fNodes := true})) ∧ Below w.heap.size w w' := by
 unfold Rec.cells Fields.cells
 have hp : spareB r {fTx := true, fYes := true, fStamp := true, fNodes := true} = spareB r {fTx := true, fYes := true, fStamp := true, fNodes := true} := rfl
 conv at hp => rhs; simp only [spareB]
 rw [hp]
 clear hp
 obtain ⟨r1, r2, r3, r4, ⟨s1, s2, s3⟩, ⟨t1, t2, t3⟩, r7, ⟨r8, r9⟩, ⟨a1, a2, a3, a4⟩, r11⟩ := r
 go_enter Tryz.func252, Tryz.ntmps252
 go_wp2
 all_goals
  go_ret
  refine ⟨ret_bool ?_, by repeat (with_reducible first | assumption | exact jb _ _ | refine Below.al ?_ _ | refine Below.drew ?_ | apply Below.st1)⟩
  go_light
  simp only [Bool.true_or, Bool.false_or, Bool.true_and, bne_iff_ne, ne_eq, Bool.eq_false_iff, Decidable.not_not, Nat.pos_iff_ne_zero] at *
  first
   | (simp_all; done)
   | (simp_all; omega)
   | (symm; rw [Bool.eq_false_iff]; intro hx; simp only [Bool.and_eq_true, decide_eq_true_eq] at hx; simp_all; done)
   | (trace_state; skip)
theorem spare_f (r : Rec) (nA pA sA : Option Addr) (nc pc sc : Nat) (w : World) : Calls Tryz.prog 252 #[.agg (r.cells nA nc pA pc sA sc).toArray, .agg (Fields.cells {fTx := true}).toArray] w fun e w' => e = .returned (.bool (spareB r {fTx := true})) ∧ Below w.heap.size w w' := by
 unfold Rec.cells Fields.cells
 have hp : spareB r {fTx := true} = spareB r {fTx := true} := rfl
 conv at hp => rhs; simp only [spareB]
 rw [hp]
 clear hp
 obtain ⟨r1, r2, r3, r4, ⟨s1, s2, s3⟩, ⟨t1, t2, t3⟩, r7, ⟨r8, r9⟩, ⟨a1, a2, a3, a4⟩, r11⟩ := r
 go_enter Tryz.func252, Tryz.ntmps252
 go_wp2
 all_goals
  go_ret
  refine ⟨ret_bool ?_, by repeat (with_reducible first | assumption | exact jb _ _ | refine Below.al ?_ _ | refine Below.drew ?_ | apply Below.st1)⟩
  go_light
  simp only [Bool.true_or, Bool.false_or, Bool.true_and, bne_iff_ne, ne_eq, Bool.eq_false_iff, Decidable.not_not, Nat.pos_iff_ne_zero] at *
  first
   | (simp_all; done)
   | (simp_all; omega)
   | (symm; rw [Bool.eq_false_iff]; intro hx; simp only [Bool.and_eq_true, decide_eq_true_eq] at hx; simp_all; done)
   | (trace_state; skip)
theorem spare_g (r : Rec) (nA pA sA : Option Addr) (nc pc sc : Nat) (w : World) : Calls Tryz.prog 252 #[.agg (r.cells nA nc pA pc sA sc).toArray, .agg (Fields.cells {fSpan := true, fTo := true}).toArray] w fun e w' => e = .returned (.bool (spareB r {fSpan := true, fTo := true})) ∧ Below w.heap.size w w' := by
 unfold Rec.cells Fields.cells
 have hp : spareB r {fSpan := true, fTo := true} = spareB r {fSpan := true, fTo := true} := rfl
 conv at hp => rhs; simp only [spareB]
 rw [hp]
 clear hp
 obtain ⟨r1, r2, r3, r4, ⟨s1, s2, s3⟩, ⟨t1, t2, t3⟩, r7, ⟨r8, r9⟩, ⟨a1, a2, a3, a4⟩, r11⟩ := r
 go_enter Tryz.func252, Tryz.ntmps252
 go_wp2
 all_goals
  go_ret
  refine ⟨ret_bool ?_, by repeat (with_reducible first | assumption | exact jb _ _ | refine Below.al ?_ _ | refine Below.drew ?_ | apply Below.st1)⟩
  go_light
  simp only [Bool.true_or, Bool.false_or, Bool.true_and, bne_iff_ne, ne_eq, Bool.eq_false_iff, Decidable.not_not, Nat.pos_iff_ne_zero] at *
  first
   | (simp_all; done)
   | (simp_all; omega)
   | (symm; rw [Bool.eq_false_iff]; intro hx; simp only [Bool.and_eq_true, decide_eq_true_eq] at hx; simp_all; done)
   | (trace_state; skip)
theorem spare_h (r : Rec) (nA pA sA : Option Addr) (nc pc sc : Nat) (w : World) : Calls Tryz.prog 252 #[.agg (r.cells nA nc pA pc sA sc).toArray, .agg (Fields.cells {fSpan := true, fStamp := true, fStreams := true}).toArray] w fun e w' => e = .returned (.bool (spareB r {fSpan := true, fStamp := true, fStreams := true})) ∧ Below w.heap.size w w' := by
 unfold Rec.cells Fields.cells
 have hp : spareB r {fSpan := true, fStamp := true, fStreams := true} = spareB r {fSpan := true, fStamp := true, fStreams := true} := rfl
 conv at hp => rhs; simp only [spareB]
 rw [hp]
 clear hp
 obtain ⟨r1, r2, r3, r4, ⟨s1, s2, s3⟩, ⟨t1, t2, t3⟩, r7, ⟨r8, r9⟩, ⟨a1, a2, a3, a4⟩, r11⟩ := r
 go_enter Tryz.func252, Tryz.ntmps252
 go_wp2
 all_goals
  go_ret
  refine ⟨ret_bool ?_, by repeat (with_reducible first | assumption | exact jb _ _ | refine Below.al ?_ _ | refine Below.drew ?_ | apply Below.st1)⟩
  go_light
  simp only [Bool.true_or, Bool.false_or, Bool.true_and, bne_iff_ne, ne_eq, Bool.eq_false_iff, Decidable.not_not, Nat.pos_iff_ne_zero] at *
  first
   | (simp_all; done)
   | (simp_all; omega)
   | (symm; rw [Bool.eq_false_iff]; intro hx; simp only [Bool.and_eq_true, decide_eq_true_eq] at hx; simp_all; done)
   | (trace_state; skip)
theorem spare_i (r : Rec) (nA pA sA : Option Addr) (nc pc sc : Nat) (w : World) : Calls Tryz.prog 252 #[.agg (r.cells nA nc pA pc sA sc).toArray, .agg (Fields.cells {fSpan := true}).toArray] w fun e w' => e = .returned (.bool (spareB r {fSpan := true})) ∧ Below w.heap.size w w' := by
 unfold Rec.cells Fields.cells
 have hp : spareB r {fSpan := true} = spareB r {fSpan := true} := rfl
 conv at hp => rhs; simp only [spareB]
 rw [hp]
 clear hp
 obtain ⟨r1, r2, r3, r4, ⟨s1, s2, s3⟩, ⟨t1, t2, t3⟩, r7, ⟨r8, r9⟩, ⟨a1, a2, a3, a4⟩, r11⟩ := r
 go_enter Tryz.func252, Tryz.ntmps252
 go_wp2
 all_goals
  go_ret
  refine ⟨ret_bool ?_, by repeat (with_reducible first | assumption | exact jb _ _ | refine Below.al ?_ _ | refine Below.drew ?_ | apply Below.st1)⟩
  go_light
  simp only [Bool.true_or, Bool.false_or, Bool.true_and, bne_iff_ne, ne_eq, Bool.eq_false_iff, Decidable.not_not, Nat.pos_iff_ne_zero] at *
  first
   | (simp_all; done)
   | (simp_all; omega)
   | (symm; rw [Bool.eq_false_iff]; intro hx; simp only [Bool.and_eq_true, decide_eq_true_eq] at hx; simp_all; done)
   | (trace_state; skip)
theorem spare_any (r : Rec) (k : Int) (hk : namedK k = true) (nA pA sA : Option Addr) (nc pc sc : Nat) (w : World) : Calls Tryz.prog 252 #[.agg (r.cells nA nc pA pc sA sc).toArray, .agg (fieldsF k).cells.toArray] w fun e w' => e = .returned (.bool (spareB r (fieldsF k))) ∧ Below w.heap.size w w' := by
 have h1 : 1 ≤ k ∧ k ≤ 11 := by simpa [namedK] using hk
 have hk : k = 1 ∨ k = 2 ∨ k = 3 ∨ k = 4 ∨ k = 5 ∨ k = 6 ∨ k = 7 ∨ k = 8 ∨ k = 9 ∨ k = 10 ∨ k = 11 := by omega
 rcases hk with rfl | rfl | rfl | rfl | rfl | rfl | rfl | rfl | rfl | rfl | rfl
 ·exact spare_a r nA pA sA nc pc sc w
 ·exact spare_a r nA pA sA nc pc sc w
 ·exact spare_b r nA pA sA nc pc sc w
 ·exact spare_c r nA pA sA nc pc sc w
 ·exact spare_d r nA pA sA nc pc sc w
 ·exact spare_e r nA pA sA nc pc sc w
 ·exact spare_f r nA pA sA nc pc sc w
 ·exact spare_a r nA pA sA nc pc sc w
 ·exact spare_g r nA pA sA nc pc sc w
 ·exact spare_h r nA pA sA nc pc sc w
 ·exact spare_i r nA pA sA nc pc sc w
end Go.Proofs.YtcmjgghkmdbphaaGreatDoor
namespace Go.Proofs.YtcmjgghkmdbphaaGreatDoor
open Go.RowKit
theorem int_blk_row {w : World} {b : Nat} {t : TypeId} {l : List Int} (h : Blk w b t (l.map fun n => .int .i64 n)) (hl : ∀ n ∈ l, i64 n) : IntR.Row w (· = b) (some ⟨b, 0, none⟩) l := fun _ => by
 refine ⟨b, 0, rfl, rfl, h.lt, fun i a hi => ⟨[_], ⟨rfl, hl a (List.mem_of_getElem? hi)⟩, fun j u hu => ?_⟩⟩
 cases j with
 | succ j => simp at hu
 | zero =>
   simp at hu; subst hu
   rw [h.cell]
   simp [IntR, hi]
theorem wnumsL_any (g base n b : Nat) (bad : Bool) (l : List Int) (w : World) (hW : Wr w base g bad n) (hb : Blk w b 3 (l.map fun n => .int .i64 n)) (hl : ∀ n ∈ l, i64 n) (hlen : l.length ≤ 1000000) (hn : n ≤ 70000000) (hg : base ≤ g) (hbg : b ≠ g) :
 Calls Tryz.prog 296 #[.pointer (some ⟨g, 0, none⟩), .slice (some ⟨b, 0, none⟩) l.length l.length] w (WrOut g base n (n + 10 * l.length) (bad || !l.all inW) w) :=
 wnums_any g base n bad _ l.length l _ w hW (int_blk_row hb hl) hlen hn hg (fun W _ ht => Turn.same_blk hb (by decide) hbg W ht)
theorem bts_new1 (w : World) (x : Int) : Bts (w.alloc (.cells #[.int .u8 x] 5)) w.heap.size (.slice (some ⟨w.heap.size, 0, none⟩) 1 1) 1 :=
 Bts.of_raw (xs := [.int .u8 x]) ⟨rfl, .inr ⟨w.heap.size, 1, #[.int .u8 x], rfl, Nat.le_refl _, heap_alloc_new w _, by decide, by decide, rfl, rfl⟩⟩ (by simp [Value.oneCell'])
def headBad (r : Rec) (f : Fields) : Bool :=
 (f.fN && !inW r.n) || ((f.fTx && !([r.tx.node, r.tx.life, r.tx.num].all inW)) || ((f.fBatch && !decide (checkB r.batch = 0)) || ((f.fSpan && !([r.range.first, r.range.last, r.range.owner, r.range.epoch].all inW)) || ((f.fTo && !inW r.to) || (f.fStamp && !soundB r.stamp)))))
theorem head_b (r : Rec) (nA pA sA : Option Addr) (nc pc sc : Nat) (g base n0 : Nat) (bad : Bool) (P : Nat → Prop) (w : World) (hW : Wr w base g bad n0) (hr : RecAt w P r nA nc pA pc sA sc) (hP : ∀ k, P k → k < base) (hn : n0 ≤ 1000000) (hg : base ≤ g) (hbw : base ≤ w.heap.size) (hl : r.batch.puts.length ≤ 1000000) (hd : ∀ p ∈ r.batch.puts, p.data.length ≤ 1000000) (hTb : Tabs w) (h2 : 2 ≤ base) :
 Calls Tryz.prog 253 #[.pointer (some ⟨g, 0, none⟩), .agg (r.cells nA nc pA pc sA sc).toArray, .agg (Fields.cells {fBatch := true, fStamp := true}).toArray] w (WrOut g base n0 (n0 + 500000) (bad || headBad r {fBatch := true, fStamp := true}) w) := by
 obtain ⟨q1, q2, q3, q4, q5, q6, q7, q8, q9, q10⟩ := hr
 have CS := fun W => encode_any r.stamp W
 unfold Stamp.val at CS
 have CB := jh (fun W (h : Below base w W) (hz : w.heap.size ≤ W.heap.size) => encodeB_any r.batch pA pc P W (q8.2.2.same (Same.of_belowB h hP) hz) hl q7 hd (hTb.only (Only.of_belowB h (fun g hg => hg)) (by omega) (by omega)) (by omega))
 have HBad : Hid (headBad r {fBatch := true, fStamp := true} = headBad r {fBatch := true, fStamp := true}) := jh rfl
 have hgl0 := hW.lt
 have B0 := (Blk.new w 46 (r.cells nA nc pA pc sA sc)).alloc (.cells (Fields.cells {fBatch := true, fStamp := true}).toArray 320)
 have B1 := Blk.new1 w (.cells (r.cells nA nc pA pc sA sc).toArray 46) 320 (Fields.cells {fBatch := true, fStamp := true})
 have HW' := jh hW
 have Q := jh (ja q2 (ja q3 (ja q5 q9)))
 unfold Rec.cells Fields.cells at B0 B1 ⊢
 clear q1 q2 q3 q4 q5 q6 q7 q8 q9 q10 hd hW
 go_enter Tryz.func253, Tryz.ntmps253
 go_upto_region 1 with fail
 refine forget (M := fun W => Code.wp _ _ _ _ W) (fun W => Below w.heap.size w W ∧ Blk W w.heap.size 46 [.int .i64 r.kind, .int .i64 r.n, .int .i64 r.to, .bool r.yes, .int .i64 r.stamp.wall, .int .i64 r.stamp.logic, .int .i64 r.stamp.node, .int .i64 r.tx.node, .int .i64 r.tx.life, .int .i64 r.tx.num, .slice nA r.nodes.length nc, .string r.batch.key, .slice pA r.batch.puts.length pc, .int .i64 r.range.first, .int .i64 r.range.last, .int .i64 r.range.owner, .int .i64 r.range.epoch, .slice sA r.streams.length sc] ∧ Blk W (w.heap.size + 1) 320 [.bool false, .bool false, .bool false, .bool true, .bool false, .bool false, .bool true, .bool false, .bool false] ∧ w.heap.size + 2 = W.heap.size) ⟨((jb _ _).al _).al _, B0, B1, by simp⟩ ?_
 clear B0 B1
 rintro w0 ⟨hb0, B0, B1, hs0⟩
 have HW0 := HW'.out.turn hb0
 have hT0 : Turn g w0 w0 := Turn.refl
 have hB0 : Below base w0 w0 := jb _ _
 have hz0 := hB0.size
 have FX := jh (fun (W : World) (h : Turn g w0 W) => ja (recCells (h.blk B0 (by decide) (by omega))) (nineB false false false true false false true false false (h.blk B1 (by decide) (by omega))))
 obtain ⟨⟨c0, c1, c2, c3, c4, c5, c6, c7, c8, c9, c10, c11, c12, c13, c14, c15, c16, c17⟩, ⟨d0, d1, d2, d3, d4, d5, d6, d7, d8⟩⟩ := FX.out w0 hT0
 clear B0 B1
 go_wp2_with fail
 have hgl := HW0.lt
 refine (CB.out w0 ((hb0.mono hbw).trans hB0) (by have := hb0.size; omega)).mono ?_
 rintro en wx ⟨hres, hbx⟩
 have hzx := hbx.size
 have hx : ∃ v2 nx, en = .returned v2 ∧ Bts wx w0.heap.size v2 nx ∧ nx ≤ 400000 ∧ decide (nx = 0) = !(decide (checkB r.batch = 0)) := by
  cases hok : (decide (checkB r.batch = 0))
  ·rw [hok] at hres
   exact ⟨_, 0, hres.out0, Bts.nil_ _ _, by omega, rfl⟩
  ·rw [hok] at hres
   obtain ⟨v2, nx, rfl, hv2, hnx, hnx_⟩ := hres.out1
   exact ⟨v2, nx, rfl, hv2, by omega, jd (by omega)⟩
 obtain ⟨v2, nx, rfl, hv2, hnx, hok⟩ := hx
 clear hres
 obtain ⟨A2, z2, rfl, _⟩ := hv2.form
 clear c0 c1 c2 c3 c4 c5 c6 c7 c8 c9 c10 c11 c12 c13 c14 c15 c16 c17 d0 d1 d2 d3 d4 d5 d6 d7 d8
 go_wp2_with fail
 have hsome := wsome_any g base n0 nx _ _ w0 wx HW0 hbx hv2 (by omega) hg (by omega)
 rw [hok] at hsome
 refine hsome.mono ?_
 rintro en w1 ⟨rfl, ⟨n1, hm1, hn1, HW1⟩, hb', ht'⟩
 have hb : Below base w0 w1 := (hbx.mono (by omega)).trans hb'
 have ht : Turn g w0 w1 := (Turn.of_below hbx).trans ht'
 clear hb' ht' hbx hsome hv2 hok
 have hT1 := hT0.trans ht
 have hB1 := hB0.trans hb
 have hz1 := hB1.size
 clear hb ht
 obtain ⟨⟨c0, c1, c2, c3, c4, c5, c6, c7, c8, c9, c10, c11, c12, c13, c14, c15, c16, c17⟩, ⟨d0, d1, d2, d3, d4, d5, d6, d7, d8⟩⟩ := FX.out w1 hT1
 go_wp2_with fail
 have hgl := HW1.lt
 refine (CS w1).mono ?_
 rintro en wx ⟨hres, hbx⟩
 have hzx := hbx.size
 have hx : ∃ v2 nx, en = .returned v2 ∧ Bts wx w1.heap.size v2 nx ∧ nx ≤ 30 ∧ decide (nx = 0) = !(soundB r.stamp) := by
  cases hok : (soundB r.stamp)
  ·rw [hok] at hres
   exact ⟨_, 0, hres.out0, Bts.nil_ _ _, by omega, rfl⟩
  ·rw [hok] at hres
   obtain ⟨v2, nx, rfl, hv2, hnx, hnx_⟩ := hres.out1
   exact ⟨v2, nx, rfl, hv2, by omega, jd (by omega)⟩
 obtain ⟨v2, nx, rfl, hv2, hnx, hok⟩ := hx
 clear hres
 obtain ⟨A2, z2, rfl, _⟩ := hv2.form
 clear c0 c1 c2 c3 c4 c5 c6 c7 c8 c9 c10 c11 c12 c13 c14 c15 c16 c17 d0 d1 d2 d3 d4 d5 d6 d7 d8
 go_wp2_with fail
 have hsome := wsome_any g base n1 nx _ _ w1 wx HW1 hbx hv2 (by omega) hg (by omega)
 rw [hok] at hsome
 refine hsome.mono ?_
 rintro en w2 ⟨rfl, ⟨n2, hm2, hn2, HW2⟩, hb', ht'⟩
 have hb : Below base w1 w2 := (hbx.mono (by omega)).trans hb'
 have ht : Turn g w1 w2 := (Turn.of_below hbx).trans ht'
 clear hb' ht' hbx hsome hv2 hok
 have hT2 := hT1.trans ht
 have hB2 := hB1.trans hb
 have hz2 := hB2.size
 clear hb ht
 obtain ⟨⟨c0, c1, c2, c3, c4, c5, c6, c7, c8, c9, c10, c11, c12, c13, c14, c15, c16, c17⟩, ⟨d0, d1, d2, d3, d4, d5, d6, d7, d8⟩⟩ := FX.out w2 hT2
 go_wp2_with fail
 (try simp only [Exit.inBlock, Exit.then]); refine bodyPost_end (results_none rfl _ _ _) rfl ?_
 refine ⟨rfl, ⟨n2, by omega, by omega, ?_⟩, (hb0.mono hbw).trans hB2, (Turn.of_below hb0).trans hT2⟩
 have := HW2
 unfold headBad
 simpa [Bool.or_assoc] using this
theorem head_g (r : Rec) (nA pA sA : Option Addr) (nc pc sc : Nat) (g base n0 : Nat) (bad : Bool) (P : Nat → Prop) (w : World) (hW : Wr w base g bad n0) (hr : RecAt w P r nA nc pA pc sA sc) (hP : ∀ k, P k → k < base) (hn : n0 ≤ 1000000) (hg : base ≤ g) (hbw : base ≤ w.heap.size) (hl : r.batch.puts.length ≤ 1000000) (hd : ∀ p ∈ r.batch.puts, p.data.length ≤ 1000000) (hTb : Tabs w) (h2 : 2 ≤ base) :
 Calls Tryz.prog 253 #[.pointer (some ⟨g, 0, none⟩), .agg (r.cells nA nc pA pc sA sc).toArray, .agg (Fields.cells {fSpan := true, fTo := true}).toArray] w (WrOut g base n0 (n0 + 500000) (bad || headBad r {fSpan := true, fTo := true}) w) := by
 obtain ⟨q1, q2, q3, q4, q5, q6, q7, q8, q9, q10⟩ := hr
 have CS := fun W => encode_any r.stamp W
 unfold Stamp.val at CS
 have CB := jh (fun W (h : Below base w W) (hz : w.heap.size ≤ W.heap.size) => encodeB_any r.batch pA pc P W (q8.2.2.same (Same.of_belowB h hP) hz) hl q7 hd (hTb.only (Only.of_belowB h (fun g hg => hg)) (by omega) (by omega)) (by omega))
 have HBad : Hid (headBad r {fSpan := true, fTo := true} = headBad r {fSpan := true, fTo := true}) := jh rfl
 have hgl0 := hW.lt
 have B0 := (Blk.new w 46 (r.cells nA nc pA pc sA sc)).alloc (.cells (Fields.cells {fSpan := true, fTo := true}).toArray 320)
 have B1 := Blk.new1 w (.cells (r.cells nA nc pA pc sA sc).toArray 46) 320 (Fields.cells {fSpan := true, fTo := true})
 have HW' := jh hW
 have Q := jh (ja q2 (ja q3 (ja q5 q9)))
 unfold Rec.cells Fields.cells at B0 B1 ⊢
 clear q1 q2 q3 q4 q5 q6 q7 q8 q9 q10 hd hW
 go_enter Tryz.func253, Tryz.ntmps253
 go_upto_region 1 with fail
 refine forget (M := fun W => Code.wp _ _ _ _ W) (fun W => Below w.heap.size w W ∧ Blk W w.heap.size 46 [.int .i64 r.kind, .int .i64 r.n, .int .i64 r.to, .bool r.yes, .int .i64 r.stamp.wall, .int .i64 r.stamp.logic, .int .i64 r.stamp.node, .int .i64 r.tx.node, .int .i64 r.tx.life, .int .i64 r.tx.num, .slice nA r.nodes.length nc, .string r.batch.key, .slice pA r.batch.puts.length pc, .int .i64 r.range.first, .int .i64 r.range.last, .int .i64 r.range.owner, .int .i64 r.range.epoch, .slice sA r.streams.length sc] ∧ Blk W (w.heap.size + 1) 320 [.bool false, .bool true, .bool false, .bool false, .bool false, .bool false, .bool false, .bool true, .bool false] ∧ w.heap.size + 2 = W.heap.size) ⟨((jb _ _).al _).al _, B0, B1, by simp⟩ ?_
 clear B0 B1
 rintro w0 ⟨hb0, B0, B1, hs0⟩
 have HW0 := HW'.out.turn hb0
 have hT0 : Turn g w0 w0 := Turn.refl
 have hB0 : Below base w0 w0 := jb _ _
 have hz0 := hB0.size
 have FX := jh (fun (W : World) (h : Turn g w0 W) => ja (recCells (h.blk B0 (by decide) (by omega))) (nineB false true false false false false false true false (h.blk B1 (by decide) (by omega))))
 obtain ⟨⟨c0, c1, c2, c3, c4, c5, c6, c7, c8, c9, c10, c11, c12, c13, c14, c15, c16, c17⟩, ⟨d0, d1, d2, d3, d4, d5, d6, d7, d8⟩⟩ := FX.out w0 hT0
 clear B0 B1
 go_wp2_with fail
 have hgl := HW0.lt
 have hsz : (w0.alloc (.cells #[.int .i64 r.range.first, .int .i64 r.range.last, .int .i64 r.range.owner, .int .i64 r.range.epoch] 3)).heap.size = w0.heap.size + 1 := by simp
 refine (wnumsL_any g base n0 w0.heap.size _ [r.range.first, r.range.last, r.range.owner, r.range.epoch] _ (HW0.turn ((jb _ _).al _)) (Blk.new w0 3 _) (by simpa [Tx.fit, Range.fit] using Q.out.2.2.2) (by simp) (by omega) hg (by omega)).mono ?_
 rintro en w1 ⟨rfl, ⟨n1, hm1, hn1, HW1⟩, hb', ht'⟩
 have hb : Below base w0 w1 := ((jb base w0).alloc (by omega) _).trans hb'
 have ht : Turn g w0 w1 := (Turn.of_below ((jb _ _).al _)).trans ht'
 simp only [List.length_cons, List.length_nil] at hn1
 clear hb' ht' hsz
 have hT1 := hT0.trans ht
 have hB1 := hB0.trans hb
 have hz1 := hB1.size
 clear hb ht
 clear c0 c1 c2 c3 c4 c5 c6 c7 c8 c9 c10 c11 c12 c13 c14 c15 c16 c17 d0 d1 d2 d3 d4 d5 d6 d7 d8
 obtain ⟨⟨c0, c1, c2, c3, c4, c5, c6, c7, c8, c9, c10, c11, c12, c13, c14, c15, c16, c17⟩, ⟨d0, d1, d2, d3, d4, d5, d6, d7, d8⟩⟩ := FX.out w1 hT1
 go_wp2_with fail
 have hgl := HW1.lt
 have hsz : (w1.alloc (.cells #[.int .i64 r.to] 3)).heap.size = w1.heap.size + 1 := by simp
 refine (wnumsL_any g base n1 w1.heap.size _ [r.to] _ (HW1.turn ((jb _ _).al _)) (Blk.new w1 3 _) (by simpa [Tx.fit, Range.fit] using Q.out.2.1) (by simp) (by omega) hg (by omega)).mono ?_
 rintro en w2 ⟨rfl, ⟨n2, hm2, hn2, HW2⟩, hb', ht'⟩
 have hb : Below base w1 w2 := ((jb base w1).alloc (by omega) _).trans hb'
 have ht : Turn g w1 w2 := (Turn.of_below ((jb _ _).al _)).trans ht'
 simp only [List.length_cons, List.length_nil] at hn2
 clear hb' ht' hsz
 have hT2 := hT1.trans ht
 have hB2 := hB1.trans hb
 have hz2 := hB2.size
 clear hb ht
 clear c0 c1 c2 c3 c4 c5 c6 c7 c8 c9 c10 c11 c12 c13 c14 c15 c16 c17 d0 d1 d2 d3 d4 d5 d6 d7 d8
 obtain ⟨⟨c0, c1, c2, c3, c4, c5, c6, c7, c8, c9, c10, c11, c12, c13, c14, c15, c16, c17⟩, ⟨d0, d1, d2, d3, d4, d5, d6, d7, d8⟩⟩ := FX.out w2 hT2
 go_wp2_with fail
 (try simp only [Exit.inBlock, Exit.then]); refine bodyPost_end (results_none rfl _ _ _) rfl ?_
 refine ⟨rfl, ⟨n2, by omega, by omega, ?_⟩, (hb0.mono hbw).trans hB2, (Turn.of_below hb0).trans hT2⟩
 have := HW2
 unfold headBad
 simpa [Bool.or_assoc] using this
theorem head_h (r : Rec) (nA pA sA : Option Addr) (nc pc sc : Nat) (g base n0 : Nat) (bad : Bool) (P : Nat → Prop) (w : World) (hW : Wr w base g bad n0) (hr : RecAt w P r nA nc pA pc sA sc) (hP : ∀ k, P k → k < base) (hn : n0 ≤ 1000000) (hg : base ≤ g) (hbw : base ≤ w.heap.size) (hl : r.batch.puts.length ≤ 1000000) (hd : ∀ p ∈ r.batch.puts, p.data.length ≤ 1000000) (hTb : Tabs w) (h2 : 2 ≤ base) :
 Calls Tryz.prog 253 #[.pointer (some ⟨g, 0, none⟩), .agg (r.cells nA nc pA pc sA sc).toArray, .agg (Fields.cells {fSpan := true, fStamp := true, fStreams := true}).toArray] w (WrOut g base n0 (n0 + 500000) (bad || headBad r {fSpan := true, fStamp := true, fStreams := true}) w) := by
 obtain ⟨q1, q2, q3, q4, q5, q6, q7, q8, q9, q10⟩ := hr
 have CS := fun W => encode_any r.stamp W
 unfold Stamp.val at CS
 have CB := jh (fun W (h : Below base w W) (hz : w.heap.size ≤ W.heap.size) => encodeB_any r.batch pA pc P W (q8.2.2.same (Same.of_belowB h hP) hz) hl q7 hd (hTb.only (Only.of_belowB h (fun g hg => hg)) (by omega) (by omega)) (by omega))
 have HBad : Hid (headBad r {fSpan := true, fStamp := true, fStreams := true} = headBad r {fSpan := true, fStamp := true, fStreams := true}) := jh rfl
 have hgl0 := hW.lt
 have B0 := (Blk.new w 46 (r.cells nA nc pA pc sA sc)).alloc (.cells (Fields.cells {fSpan := true, fStamp := true, fStreams := true}).toArray 320)
 have B1 := Blk.new1 w (.cells (r.cells nA nc pA pc sA sc).toArray 46) 320 (Fields.cells {fSpan := true, fStamp := true, fStreams := true})
 have HW' := jh hW
 have Q := jh (ja q2 (ja q3 (ja q5 q9)))
 unfold Rec.cells Fields.cells at B0 B1 ⊢
 clear q1 q2 q3 q4 q5 q6 q7 q8 q9 q10 hd hW
 go_enter Tryz.func253, Tryz.ntmps253
 go_upto_region 1 with fail
 refine forget (M := fun W => Code.wp _ _ _ _ W) (fun W => Below w.heap.size w W ∧ Blk W w.heap.size 46 [.int .i64 r.kind, .int .i64 r.n, .int .i64 r.to, .bool r.yes, .int .i64 r.stamp.wall, .int .i64 r.stamp.logic, .int .i64 r.stamp.node, .int .i64 r.tx.node, .int .i64 r.tx.life, .int .i64 r.tx.num, .slice nA r.nodes.length nc, .string r.batch.key, .slice pA r.batch.puts.length pc, .int .i64 r.range.first, .int .i64 r.range.last, .int .i64 r.range.owner, .int .i64 r.range.epoch, .slice sA r.streams.length sc] ∧ Blk W (w.heap.size + 1) 320 [.bool false, .bool false, .bool false, .bool true, .bool false, .bool false, .bool false, .bool true, .bool true] ∧ w.heap.size + 2 = W.heap.size) ⟨((jb _ _).al _).al _, B0, B1, by simp⟩ ?_
 clear B0 B1
 rintro w0 ⟨hb0, B0, B1, hs0⟩
 have HW0 := HW'.out.turn hb0
 have hT0 : Turn g w0 w0 := Turn.refl
 have hB0 : Below base w0 w0 := jb _ _
 have hz0 := hB0.size
 have FX := jh (fun (W : World) (h : Turn g w0 W) => ja (recCells (h.blk B0 (by decide) (by omega))) (nineB false false false true false false false true true (h.blk B1 (by decide) (by omega))))
 obtain ⟨⟨c0, c1, c2, c3, c4, c5, c6, c7, c8, c9, c10, c11, c12, c13, c14, c15, c16, c17⟩, ⟨d0, d1, d2, d3, d4, d5, d6, d7, d8⟩⟩ := FX.out w0 hT0
 clear B0 B1
 go_wp2_with fail
 have hgl := HW0.lt
 have hsz : (w0.alloc (.cells #[.int .i64 r.range.first, .int .i64 r.range.last, .int .i64 r.range.owner, .int .i64 r.range.epoch] 3)).heap.size = w0.heap.size + 1 := by simp
 refine (wnumsL_any g base n0 w0.heap.size _ [r.range.first, r.range.last, r.range.owner, r.range.epoch] _ (HW0.turn ((jb _ _).al _)) (Blk.new w0 3 _) (by simpa [Tx.fit, Range.fit] using Q.out.2.2.2) (by simp) (by omega) hg (by omega)).mono ?_
 rintro en w1 ⟨rfl, ⟨n1, hm1, hn1, HW1⟩, hb', ht'⟩
 have hb : Below base w0 w1 := ((jb base w0).alloc (by omega) _).trans hb'
 have ht : Turn g w0 w1 := (Turn.of_below ((jb _ _).al _)).trans ht'
 simp only [List.length_cons, List.length_nil] at hn1
 clear hb' ht' hsz
 have hT1 := hT0.trans ht
 have hB1 := hB0.trans hb
 have hz1 := hB1.size
 clear hb ht
 clear c0 c1 c2 c3 c4 c5 c6 c7 c8 c9 c10 c11 c12 c13 c14 c15 c16 c17 d0 d1 d2 d3 d4 d5 d6 d7 d8
 obtain ⟨⟨c0, c1, c2, c3, c4, c5, c6, c7, c8, c9, c10, c11, c12, c13, c14, c15, c16, c17⟩, ⟨d0, d1, d2, d3, d4, d5, d6, d7, d8⟩⟩ := FX.out w1 hT1
 go_wp2_with fail
 have hgl := HW1.lt
 refine (CS w1).mono ?_
 rintro en wx ⟨hres, hbx⟩
 have hzx := hbx.size
 have hx : ∃ v2 nx, en = .returned v2 ∧ Bts wx w1.heap.size v2 nx ∧ nx ≤ 30 ∧ decide (nx = 0) = !(soundB r.stamp) := by
  cases hok : (soundB r.stamp)
  ·rw [hok] at hres
   exact ⟨_, 0, hres.out0, Bts.nil_ _ _, by omega, rfl⟩
  ·rw [hok] at hres
   obtain ⟨v2, nx, rfl, hv2, hnx, hnx_⟩ := hres.out1
   exact ⟨v2, nx, rfl, hv2, by omega, jd (by omega)⟩
 obtain ⟨v2, nx, rfl, hv2, hnx, hok⟩ := hx
 clear hres
 obtain ⟨A2, z2, rfl, _⟩ := hv2.form
 clear c0 c1 c2 c3 c4 c5 c6 c7 c8 c9 c10 c11 c12 c13 c14 c15 c16 c17 d0 d1 d2 d3 d4 d5 d6 d7 d8
 go_wp2_with fail
 have hsome := wsome_any g base n1 nx _ _ w1 wx HW1 hbx hv2 (by omega) hg (by omega)
 rw [hok] at hsome
 refine hsome.mono ?_
 rintro en w2 ⟨rfl, ⟨n2, hm2, hn2, HW2⟩, hb', ht'⟩
 have hb : Below base w1 w2 := (hbx.mono (by omega)).trans hb'
 have ht : Turn g w1 w2 := (Turn.of_below hbx).trans ht'
 clear hb' ht' hbx hsome hv2 hok
 have hT2 := hT1.trans ht
 have hB2 := hB1.trans hb
 have hz2 := hB2.size
 clear hb ht
 obtain ⟨⟨c0, c1, c2, c3, c4, c5, c6, c7, c8, c9, c10, c11, c12, c13, c14, c15, c16, c17⟩, ⟨d0, d1, d2, d3, d4, d5, d6, d7, d8⟩⟩ := FX.out w2 hT2
 go_wp2_with fail
 (try simp only [Exit.inBlock, Exit.then]); refine bodyPost_end (results_none rfl _ _ _) rfl ?_
 refine ⟨rfl, ⟨n2, by omega, by omega, ?_⟩, (hb0.mono hbw).trans hB2, (Turn.of_below hb0).trans hT2⟩
 have := HW2
 unfold headBad
 simpa [Bool.or_assoc] using this
theorem head_i (r : Rec) (nA pA sA : Option Addr) (nc pc sc : Nat) (g base n0 : Nat) (bad : Bool) (P : Nat → Prop) (w : World) (hW : Wr w base g bad n0) (hr : RecAt w P r nA nc pA pc sA sc) (hP : ∀ k, P k → k < base) (hn : n0 ≤ 1000000) (hg : base ≤ g) (hbw : base ≤ w.heap.size) (hl : r.batch.puts.length ≤ 1000000) (hd : ∀ p ∈ r.batch.puts, p.data.length ≤ 1000000) (hTb : Tabs w) (h2 : 2 ≤ base) :
 Calls Tryz.prog 253 #[.pointer (some ⟨g, 0, none⟩), .agg (r.cells nA nc pA pc sA sc).toArray, .agg (Fields.cells {fSpan := true}).toArray] w (WrOut g base n0 (n0 + 500000) (bad || headBad r {fSpan := true}) w) := by
 obtain ⟨q1, q2, q3, q4, q5, q6, q7, q8, q9, q10⟩ := hr
 have CS := fun W => encode_any r.stamp W
 unfold Stamp.val at CS
 have CB := jh (fun W (h : Below base w W) (hz : w.heap.size ≤ W.heap.size) => encodeB_any r.batch pA pc P W (q8.2.2.same (Same.of_belowB h hP) hz) hl q7 hd (hTb.only (Only.of_belowB h (fun g hg => hg)) (by omega) (by omega)) (by omega))
 have HBad : Hid (headBad r {fSpan := true} = headBad r {fSpan := true}) := jh rfl
 have hgl0 := hW.lt
 have B0 := (Blk.new w 46 (r.cells nA nc pA pc sA sc)).alloc (.cells (Fields.cells {fSpan := true}).toArray 320)
 have B1 := Blk.new1 w (.cells (r.cells nA nc pA pc sA sc).toArray 46) 320 (Fields.cells {fSpan := true})
 have HW' := jh hW
 have Q := jh (ja q2 (ja q3 (ja q5 q9)))
 unfold Rec.cells Fields.cells at B0 B1 ⊢
 clear q1 q2 q3 q4 q5 q6 q7 q8 q9 q10 hd hW
 go_enter Tryz.func253, Tryz.ntmps253
 go_upto_region 1 with fail
 refine forget (M := fun W => Code.wp _ _ _ _ W) (fun W => Below w.heap.size w W ∧ Blk W w.heap.size 46 [.int .i64 r.kind, .int .i64 r.n, .int .i64 r.to, .bool r.yes, .int .i64 r.stamp.wall, .int .i64 r.stamp.logic, .int .i64 r.stamp.node, .int .i64 r.tx.node, .int .i64 r.tx.life, .int .i64 r.tx.num, .slice nA r.nodes.length nc, .string r.batch.key, .slice pA r.batch.puts.length pc, .int .i64 r.range.first, .int .i64 r.range.last, .int .i64 r.range.owner, .int .i64 r.range.epoch, .slice sA r.streams.length sc] ∧ Blk W (w.heap.size + 1) 320 [.bool false, .bool false, .bool false, .bool false, .bool false, .bool false, .bool false, .bool true, .bool false] ∧ w.heap.size + 2 = W.heap.size) ⟨((jb _ _).al _).al _, B0, B1, by simp⟩ ?_
 clear B0 B1
 rintro w0 ⟨hb0, B0, B1, hs0⟩
 have HW0 := HW'.out.turn hb0
 have hT0 : Turn g w0 w0 := Turn.refl
 have hB0 : Below base w0 w0 := jb _ _
 have hz0 := hB0.size
 have FX := jh (fun (W : World) (h : Turn g w0 W) => ja (recCells (h.blk B0 (by decide) (by omega))) (nineB false false false false false false false true false (h.blk B1 (by decide) (by omega))))
 obtain ⟨⟨c0, c1, c2, c3, c4, c5, c6, c7, c8, c9, c10, c11, c12, c13, c14, c15, c16, c17⟩, ⟨d0, d1, d2, d3, d4, d5, d6, d7, d8⟩⟩ := FX.out w0 hT0
 clear B0 B1
 go_wp2_with fail
 have hgl := HW0.lt
 have hsz : (w0.alloc (.cells #[.int .i64 r.range.first, .int .i64 r.range.last, .int .i64 r.range.owner, .int .i64 r.range.epoch] 3)).heap.size = w0.heap.size + 1 := by simp
 refine (wnumsL_any g base n0 w0.heap.size _ [r.range.first, r.range.last, r.range.owner, r.range.epoch] _ (HW0.turn ((jb _ _).al _)) (Blk.new w0 3 _) (by simpa [Tx.fit, Range.fit] using Q.out.2.2.2) (by simp) (by omega) hg (by omega)).mono ?_
 rintro en w1 ⟨rfl, ⟨n1, hm1, hn1, HW1⟩, hb', ht'⟩
 have hb : Below base w0 w1 := ((jb base w0).alloc (by omega) _).trans hb'
 have ht : Turn g w0 w1 := (Turn.of_below ((jb _ _).al _)).trans ht'
 simp only [List.length_cons, List.length_nil] at hn1
 clear hb' ht' hsz
 have hT1 := hT0.trans ht
 have hB1 := hB0.trans hb
 have hz1 := hB1.size
 clear hb ht
 clear c0 c1 c2 c3 c4 c5 c6 c7 c8 c9 c10 c11 c12 c13 c14 c15 c16 c17 d0 d1 d2 d3 d4 d5 d6 d7 d8
 obtain ⟨⟨c0, c1, c2, c3, c4, c5, c6, c7, c8, c9, c10, c11, c12, c13, c14, c15, c16, c17⟩, ⟨d0, d1, d2, d3, d4, d5, d6, d7, d8⟩⟩ := FX.out w1 hT1
 go_wp2_with fail
 (try simp only [Exit.inBlock, Exit.then]); refine bodyPost_end (results_none rfl _ _ _) rfl ?_
 refine ⟨rfl, ⟨n1, by omega, by omega, ?_⟩, (hb0.mono hbw).trans hB1, (Turn.of_below hb0).trans hT1⟩
 have := HW1
 unfold headBad
 simpa [Bool.or_assoc] using this
end Go.Proofs.YtcmjgghkmdbphaaGreatDoor
