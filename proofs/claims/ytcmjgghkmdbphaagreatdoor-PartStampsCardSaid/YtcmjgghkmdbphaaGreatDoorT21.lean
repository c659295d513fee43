/- part.Prepare. part.Decide. -/
import Derived.Test.YtcmjgghkmdbphaaGreatDoorT20
import Derived.Test.YtcmjgghkmdbphaaGreatDoorT05
import Derived.Test.YtcmjgghkmdbphaaGreatDoorT12
import Derived.Test.YtcmjgghkmdbphaaGreatDoorT17
set_option maxRecDepth 20000
set_option maxHeartbeats 25600000
namespace Go.Proofs.YtcmjgghkmdbphaaGreatDoor
open Go.RowKit
structure PlanP where
 recs : List Rec
 code : Int
 stamp : Stamp
 firsts : List Int
def noP (code : Int) : PlanP := ⟨[], code, zeroStamp, []⟩
def prepR (t : Tx) (b : Batch) (st : Stamp) : Rec := ⟨4, 0, 0, false, st, t, [], b, ⟨0, 0, 0, 0⟩, []⟩
def prepM (s : St) (c : Clk) (t : Tx) (b : Batch) : Clk × PlanP :=
 if (mayS s b).2.2 = 0 then (if (tickC c).2.2 ≠ 0 then ((tickC c).1, noP (tickC c).2.2) else ((tickC c).1, ⟨[prepR t b (tickC c).2.1], 0, (tickC c).2.1, (mayS s b).1⟩))
 else if (mayS s b).2.2 = 4 then (c, ⟨[], 4, (mayS s b).2.1.stamp, (mayS s b).1⟩)
 else (c, noP (mayS s b).2.2)
def prepP (s : St) (c : Clk) (t : Tx) (b : Batch) (st : Stamp) : Clk × PlanP :=
 match getA t s.held with
 | some h => (c, ⟨[], 0, h.stamp, h.firsts⟩)
 | none =>
   if 0 < (getA t s.decided).getD 0 then (c, noP 11)
   else if (mergeC c st).2 ≠ 0 then ((mergeC c st).1, noP (mergeC c st).2)
   else prepM s (mergeC c st).1 t b
def PlanOut (B : Nat) (Q : Nat → Prop) (t : Tx) (p : PlanP) (d y : Bool) (e : Ending) (w' : World) : Prop :=
 ∃ rA rc fA fc, e = .returned (.agg (planV (.slice rA p.recs.length rc) t p.code p.stamp (.slice fA p.firsts.length fc) d y).toArray) ∧ (p.recs.length ≤ rc ∧ rc ≤ 9223372036854775807) ∧ RecR.Row w' (fun k => Q k ∨ B ≤ k) rA p.recs ∧ (p.firsts.length ≤ fc ∧ fc ≤ 9223372036854775807) ∧ IntR.Row w' (fun k => B ≤ k) fA p.firsts
theorem PlanOut.no {B : Nat} {Q : Nat → Prop} {t : Tx} {code : Int} {w' : World} : PlanOut B Q t (noP code) false false (.returned (.agg (planV (.slice none 0 0) t code zeroStamp (.slice none 0 0) false false).toArray)) w' :=
 ⟨none, 0, none, 0, rfl, ⟨Nat.le_refl _, by decide⟩, Rep.Row.nil_, ⟨Nat.le_refl _, by decide⟩, Rep.Row.nil_⟩
def planZ : List Value := [.slice none 0 0, .int .i64 0, .int .i64 0, .int .i64 0, .int .i64 0, .int .i64 0, .int .i64 0, .int .i64 0, .slice none 0 0, .bool false, .bool false]
def prepV (t : Tx) (key : Str) (A : Option Addr) (n c : Nat) (st : Stamp) : List Value := [.int .i64 t.node, .int .i64 t.life, .int .i64 t.num, .string key, .slice A n c, .int .i64 st.wall, .int .i64 st.logic, .int .i64 st.node]
theorem merge_ok {c : Clk} {s : Stamp} (h : c.Ok) : (mergeC c s).1.Ok := by
 unfold mergeC
 split
 ·exact h
 split
 ·exact h
 ·rename_i h1 h2
  have hs : (0 ≤ s.wall ∧ s.wall ≤ 1125899906842624) ∧ 0 ≤ s.logic ∧ s.logic ≤ 65535 := by
   simp [soundB, withinB] at h1; omega
  have hm : maxS c.last { s with node := c.last.node } = c.last ∨ maxS c.last { s with node := c.last.node } = { s with node := c.last.node } := by
   unfold maxS mostI pickI
   simp only [List.foldl]
   split
   ·exact .inr rfl
   ·exact .inl rfl
  rcases hm with e | e
  ·exact ⟨by show 1 ≤ (maxS _ _).node ∧ _; rw [e]; exact h.node, by show 0 ≤ (maxS _ _).wall ∧ _; rw [e]; exact h.wall, by show 0 ≤ (maxS _ _).logic ∧ _; rw [e]; exact h.logic, h.reading⟩
  ·exact ⟨by show 1 ≤ (maxS _ _).node ∧ _; rw [e]; exact h.node, by show 0 ≤ (maxS _ _).wall ∧ _; rw [e]; exact hs.1, by show 0 ≤ (maxS _ _).logic ∧ _; rw [e]; exact hs.2, h.reading⟩
theorem next_ok {c : Clk} (h : c.Ok) : (nextC c).node = c.last.node ∧ (0 ≤ (nextC c).wall ∧ (nextC c).wall ≤ 1125899906842624) ∧ 0 ≤ (nextC c).logic ∧ (nextC c).logic ≤ 65536 := by
 unfold nextC
 have h1 := h.wall
 have h2 := h.logic
 have h3 := h.reading
 split
 ·exact ⟨rfl, h3, Int.le_refl 0, (by decide : (0 : Int) ≤ 65536)⟩
 ·exact ⟨rfl, h1, by show 0 ≤ _ + 1; omega, by show _ + 1 ≤ _; omega⟩
theorem tick_ok {c : Clk} (h : c.Ok) : (tickC c).1.Ok := by
 have hn := next_ok h
 unfold tickC
 split
 ·exact h
 ·exact ⟨by show 1 ≤ (nextC c).node ∧ _; rw [hn.1]; exact h.node, hn.2.1, by show 0 ≤ (nextC c).logic ∧ (nextC c).logic ≤ 65535; omega, h.reading⟩
structure PrIn (w : World) (P Q : Nat → Prop) (g gc : Nat) (s : St) (c : Clk) (b : Batch) (A : Option Addr) (W : World) : Prop where
 st : StAt W P g s
 ck : CkAt W gc c
 r : PutR.Row W (fun k => Q k ∧ k < w.heap.size) A b.puts
 tabs : Tabs W
 size : w.heap.size + 2 ≤ W.heap.size
 only : Only (· = gc) w W
structure PrMb (w : World) (cs zs : List Value) (W : World) : Prop where
 mb : Blk W w.heap.size 109 cs
 rb : Blk W (w.heap.size + 1) 113 zs
theorem PrMb.ext {w W W' : World} {cs zs : List Value} (h : PrMb w cs zs W) (hb : Below W.heap.size W W') : PrMb w cs zs W' := ⟨h.mb.ext hb, h.rb.ext hb⟩
theorem PrMb.only {w W W' : World} {cs zs : List Value} {gc : Nat} (h : PrMb w cs zs W) (hg : gc < w.heap.size) (hb : Only (· = gc) W W') : PrMb w cs zs W' := ⟨h.mb.only hb (fun e => by have e' : w.heap.size = gc := e; omega), h.rb.only hb (fun e => by have e' : w.heap.size + 1 = gc := e; omega)⟩
section
variable {w W W' : World} {P Q : Nat → Prop} {g gc : Nat} {s : St} {c c' : Clk} {b : Batch} {A : Option Addr}
theorem PrIn.ext (h : PrIn w P Q g gc s c b A W) (hb : Below W.heap.size W W') : PrIn w P Q g gc s c b A W' :=
 ⟨by obtain ⟨v, a1, a2⟩ := h.st; exact ⟨v, a1.ext hb, a2.same (js hb)⟩, Blk.ext h.ck hb, h.r.ext hb, h.tabs.below hb, Nat.le_trans h.size hb.size, h.only.tr (jo hb)⟩
theorem PrIn.clk (h : PrIn w P Q g gc s c b A W) (hg : g ≠ gc) (hP : ¬ P gc) (hQ : ¬ Q gc) (h2 : 2 ≤ gc) (hc : CkAt W' gc c') (hO : Only (· = gc) W W') : PrIn w P Q g gc s c' b A W' :=
 ⟨by obtain ⟨v, a1, a2⟩ := h.st; exact ⟨v, a1.only hO hg, a2.same (Same.of_only hO fun k hk e => by have e' : k = gc := e; exact hP (e' ▸ hk))⟩, hc,
  h.r.same (Same.of_only hO fun k hk e => by have e' : k = gc := e; exact hQ (e' ▸ hk.1)) hO.size, h.tabs.only hO (by intro e; have e' : 0 = gc := e; omega) (by intro e; have e' : 1 = gc := e; omega), Nat.le_trans h.size hO.size, h.only.tr hO⟩
end
theorem partPrepare_any (g gc : Nat) (s : St) (c : Clk) (t : Tx) (b : Batch) (st : Stamp) (A : Option Addr) (cc : Nat) (P Q : Nat → Prop) (w : World) (h : StAt w P g s) (hF : Fit s) (hl : s.held.length ≤ 1000000) (hk : ∀ p ∈ s.held, p.2.tx = p.1)
 (hc : CkAt w gc c) (hco : c.Ok) (hg : g ≠ gc) (hP : ¬ P gc) (hQ : ¬ Q gc) (h2 : 2 ≤ gc) (hr : PutR.Row w Q A b.puts) (hcc : b.puts.length ≤ cc ∧ cc ≤ 9223372036854775807) (hb : b.puts.length ≤ 1000000 ∧ sfit b.key ∧ ∀ p ∈ b.puts, p.data.length ≤ 1000000) (ht : t.fit) (hT : Tabs w) :
 Calls Tryz.prog 59 #[ptrV g, .pointer (some ⟨gc, 0, none⟩), .agg (prepV t b.key A b.puts.length cc st).toArray] w fun e w' => PlanOut w.heap.size Q t (prepP s c t b st).2 false false e w' ∧ CkAt w' gc (prepP s c t b st).1 ∧ Only (· = gc) w w' := by
 have hgc := hc.lt
 have hs := hF.self
 have B0 := (Blk.new w 109 (prepV t b.key A b.puts.length cc st)).alloc (.cells planZ.toArray 113)
 have B1 := Blk.new1 w (.cells (prepV t b.key A b.puts.length cc st).toArray 109) 113 planZ
 have hb1 := ((jb w.heap.size w).al (.cells (prepV t b.key A b.puts.length cc st).toArray 109)).al (.cells planZ.toArray 113)
 have hz1 : ((w.alloc (.cells (prepV t b.key A b.puts.length cc st).toArray 109)).alloc (.cells planZ.toArray 113)).heap.size = w.heap.size + 2 := by simp
 have HI := jh (show PrIn w P Q g gc s c b A _ from ⟨by obtain ⟨v, a1, a2⟩ := h; exact ⟨v, a1.ext hb1, a2.same (js hb1)⟩, Blk.ext hc hb1, (hr.mono fun k a b => ⟨a, b⟩).ext hb1, hT.below hb1, Nat.le_of_eq hz1.symm, jo hb1⟩)
 have HM := jh (show PrMb w (prepV t b.key A b.puts.length cc st) planZ _ from ⟨B0, B1⟩)
 have HH := jh (ja hF (ja hl (ja hk (ja hco (ja hg (ja hP (ja hQ (ja hb (ja hcc ht)))))))))
 clear h hF hl hk hc hco hg hP hQ hr hcc hb ht hT B0 B1 hb1 hz1
 unfold ptrV
 unfold prepV planZ at *
 go_enter Tryz.func59, Tryz.ntmps59
 go_upto_region 1 with fail
 generalize (w.alloc (.cells #[.int .i64 t.node, .int .i64 t.life, .int .i64 t.num, .string b.key, .slice A b.puts.length cc, .int .i64 st.wall, .int .i64 st.logic, .int .i64 st.node] 109)).alloc (.cells #[.slice none 0 0, .int .i64 0, .int .i64 0, .int .i64 0, .int .i64 0, .int .i64 0, .int .i64 0, .int .i64 0, .slice none 0 0, .bool false, .bool false] 113) = w1 at *
 have C1 := partHeld_any g s t P w1 HI.out.st hs HH.out.1.held HH.out.2.1 HH.out.2.2.1
 unfold ptrV HeldOut at C1
 have m0 := HM.out.mb.cell 0
 have m1 := HM.out.mb.cell 1
 have m2 := HM.out.mb.cell 2
 simp only [List.getElem?_cons_zero, List.getElem?_cons_succ] at m0 m1 m2
 have hlt0 := HM.out.mb.lt
 rcases hgt : getA t s.held with _ | h
 ·rw [hgt] at C1
  dsimp only at C1
  have HP := jh (show prepP s c t b st = if 0 < (getA t s.decided).getD 0 then (c, noP 11) else if (mergeC c st).2 ≠ 0 then ((mergeC c st).1, noP (mergeC c st).2) else prepM s (mergeC c st).1 t b from by unfold prepP; rw [hgt])
  clear hgt
  unfold Held.zeros at C1
  go_wp2_with fail
  refine C1.mono ?_
  clear C1 m0 m1 m2
  rintro e w2 ⟨rfl, hb2⟩
  have hb3 := hb2.al (.cells #[.int .i64 0, .int .i64 0, .int .i64 0, .string ⟨#[]⟩, .slice none 0 0, .int .i64 0, .int .i64 0, .int .i64 0, .slice none 0 0] 192)
  have HI3 := jh (HI.out.ext hb3)
  have HM3 := jh (HM.out.ext hb3)
  clear hb2 hb3 hlt0 HI HM
  go_upto_region 4 with fail
  have m0 := HM3.out.mb.cell
  have hlt0 := HM3.out.mb.lt
  have C2 := sdecided_any g s t P _ HI3.out.st hs
  unfold ptrV at C2
  generalize w2.alloc (.cells #[.int .i64 0, .int .i64 0, .int .i64 0, .string ⟨#[]⟩, .slice none 0 0, .int .i64 0, .int .i64 0, .int .i64 0, .slice none 0 0] 192) = w3 at *
  by_cases hdc : 0 < (getA t s.decided).getD 0
  ·rw [decide_eq_true hdc] at C2
   rw [if_pos hdc] at HP
   clear hdc
   go_wp2_with fail
   refine C2.mono ?_
   clear C2
   rintro e w4 ⟨rfl, hb4⟩
   have HI4 := jh (HI3.out.ext hb4)
   have HM4 := jh (HM3.out.ext hb4)
   clear hb4 HI3 HM3 m0 hlt0
   have m0 := HM4.out.mb.cell
   have hlt0 := HM4.out.mb.lt
   go_wp2_with fail
   refine (no_any t 11 _).mono ?_
   rintro e w8 ⟨rfl, hb8⟩
   have HI49 := jh (HI4.out.ext hb8)
   have HM49 := jh (HM4.out.ext hb8)
   clear hb8
   go_wp2_with (refine wpList_store_blk (cs := planV (.slice none 0 0) t 11 zeroStamp (.slice none 0 0) false false) rfl rfl rfl rfl rfl HM49.out.rb (by kernel_rfl) rfl (by simp [planV, Value.oneCell']) ?_; intro w9 hB9 hO9 hz9)
   refine bodyPost_blk (t := 113) (cs := planV (.slice none 0 0) t 11 zeroStamp (.slice none 0 0) false false) rfl hB9 rfl Tryz.underlying113 rfl (by kernel_rfl) rfl ?_
   rw [HP.out]
   exact ⟨PlanOut.no, Blk.only HI49.out.ck hO9 (fun e => by have e' : gc = w.heap.size + 1 := e; omega), HI49.out.only.trans hO9 (fun k hk e => by have e' : k = w.heap.size + 1 := e; omega)⟩
  ·rw [jd hdc] at C2
   rw [if_neg hdc] at HP
   clear hdc
   go_wp2_with fail
   refine C2.mono ?_
   clear C2
   rintro e w4 ⟨rfl, hb4⟩
   have HI4 := jh (HI3.out.ext hb4)
   have HM4 := jh (HM3.out.ext hb4)
   clear hb4 HI3 HM3 m0 hlt0
   have m0 := HM4.out.mb.cell
   have hlt0 := HM4.out.mb.lt
   have C3 := clkMerge_any gc c st w4 HI4.out.ck HH.out.2.2.2.1
   have hmok := jh (merge_ok (s := st) HH.out.2.2.2.1)
   go_wp2_with fail
   refine C3.mono ?_
   clear C3
   rintro e w5 ⟨rfl, hc5, hO5⟩
   have HI5 := jh (HI4.out.clk HH.out.2.2.2.2.1 HH.out.2.2.2.2.2.1 HH.out.2.2.2.2.2.2.1 h2 hc5 hO5)
   have HM5 := jh (HM4.out.only hgc hO5)
   clear hc5 hO5 HI4 HM4 m0 hlt0
   have m0 := HM5.out.mb.cell
   have hlt0 := HM5.out.mb.lt
   generalize mergeC c st = mc at *
   obtain ⟨c1, code⟩ := mc
   dsimp only at *
   by_cases hcode : code = 0
   ·subst hcode
    rw [if_neg (by simp)] at HP
    have C4 := may_any' g s b A cc P _ w5 HI5.out.st (HH.out.1.seen HI5.out.st) HI5.out.r HH.out.2.2.2.2.2.2.2.1.1 HH.out.2.2.2.2.2.2.2.1.2.1 HH.out.2.2.2.2.2.2.2.1.2.2 HI5.out.tabs (by have := HI5.out.size; omega)
    unfold Got3 ptrV at C4
    go_wp2_with fail
    refine C4.mono ?_
    clear C4
    rintro e w6 ⟨⟨fv, rfl, hfv⟩, hb6⟩
    obtain ⟨fA, fc, rfl, hf1, hf2⟩ := hfv.form
    have hfr : IntR.Row w6 (fun k => w.heap.size + 2 ≤ k) fA (mayS s b).1 := hfv.row' int_plain (fun k h => by have := (hfv.lt k h).1; have := HI5.out.size; omega)
    have HE := jh (show prepM s c1 t b = if (mayS s b).2.2 = 0 then (if (tickC c1).2.2 ≠ 0 then ((tickC c1).1, noP (tickC c1).2.2) else ((tickC c1).1, ⟨[prepR t b (tickC c1).2.1], 0, (tickC c1).2.1, (mayS s b).1⟩)) else if (mayS s b).2.2 = 4 then (c1, ⟨[], 4, (mayS s b).2.1.stamp, (mayS s b).1⟩) else (c1, noP (mayS s b).2.2) from rfl)
    have HFR := jh (ja (ja hf1 hf2) hfr)
    clear hfv hfr hf1 hf2
    generalize mayS s b = q at *
    obtain ⟨firsts, kn, code⟩ := q
    dsimp only at *
    have hb7 := hb6.al (.cells #[.string kn.key, .int .i64 kn.first, .int .i64 kn.stamp.wall, .int .i64 kn.stamp.logic, .int .i64 kn.stamp.node] 49)
    have HI7 := jh (HI5.out.ext hb7)
    have HM7 := jh (HM5.out.ext hb7)
    have HF7 := jh (ja HFR.out.1 (HFR.out.2.ext ((jb _ _).al (.cells #[.string kn.key, .int .i64 kn.first, .int .i64 kn.stamp.wall, .int .i64 kn.stamp.logic, .int .i64 kn.stamp.node] 49))))
    have KB := (Blk.new w6 49 [.string kn.key, .int .i64 kn.first, .int .i64 kn.stamp.wall, .int .i64 kn.stamp.logic, .int .i64 kn.stamp.node])
    have HKB := jh KB
    clear hb6 hb7 HI5 HM5 HFR KB m0 hlt0
    go_upto_region 10 with fail
    generalize w6.alloc (.cells #[.string kn.key, .int .i64 kn.first, .int .i64 kn.stamp.wall, .int .i64 kn.stamp.logic, .int .i64 kn.stamp.node] 49) = w7 at *
    have m0 := HM7.out.mb.cell
    have hlt0 := HM7.out.mb.lt
    have k2 := HKB.out.cell 2
    have k3 := HKB.out.cell 3
    have k4 := HKB.out.cell 4
    simp only [List.getElem?_cons_zero, List.getElem?_cons_succ] at k2 k3 k4
    by_cases h0 : code = 0
    ·subst h0
     rw [if_pos rfl] at HE
     clear k2 k3 k4 HKB
     have CT := clkTick_any gc c1 w7 HI7.out.ck hmok.out
     have htok := jh (next_ok hmok.out)
     have HTD := jh (show tickC c1 = if 65536 ≤ (nextC c1).logic then (c1, ⟨0, 0, 0⟩, 7) else ({ c1 with last := nextC c1 }, nextC c1, 0) from rfl)
     go_wp2_with fail
     refine CT.mono ?_
     clear CT
     rintro e w10 ⟨rfl, hc10, hO10⟩
     have HI10 := jh (HI7.out.clk HH.out.2.2.2.2.1 HH.out.2.2.2.2.2.1 HH.out.2.2.2.2.2.2.1 h2 hc10 hO10)
     have HM10 := jh (HM7.out.only hgc hO10)
     have HF10 := jh (ja HF7.out.1 (Rep.Row.only HF7.out.2 hO10 (fun k hk e => by have e1 : k = gc := e; have h1 : w.heap.size + 2 ≤ k := hk; omega)))
     clear hc10 hO10 HI7 HM7 HF7 m0 hlt0
     rw [HE.out] at HP
     clear HE
     have HTS := jh (show (tickC c1).2.2 = 0 → i64 (tickC c1).2.1.wall ∧ i64 (tickC c1).2.1.logic ∧ i64 (tickC c1).2.1.node from fun h => by
      have h1 := htok.out
      have h2 := hmok.out.node
      rw [HTD.out] at h ⊢
      split
      ·rename_i h3; rw [if_pos h3] at h; cases h
      ·exact ⟨⟨by show _ ≤ (nextC c1).wall; omega, by show (nextC c1).wall ≤ _; omega⟩, ⟨by show _ ≤ (nextC c1).logic; omega, by show (nextC c1).logic ≤ _; omega⟩, ⟨by show _ ≤ (nextC c1).node; omega, by show (nextC c1).node ≤ _; omega⟩⟩)
     clear HTD htok
     generalize tickC c1 = tk at *
     obtain ⟨c2, now, tcode⟩ := tk
     dsimp only at *
     unfold Stamp.cells
     have hbs := (jb w10.heap.size w10).al (.cells #[.int .i64 now.wall, .int .i64 now.logic, .int .i64 now.node] 40)
     have HI11 := jh (HI10.out.ext hbs)
     have HM11 := jh (HM10.out.ext hbs)
     have HF11 := jh (ja HF10.out.1 (HF10.out.2.ext hbs))
     have HNB := jh (Blk.new w10 40 [.int .i64 now.wall, .int .i64 now.logic, .int .i64 now.node])
     clear hbs HI10 HM10 HF10
     go_upto_region 16 with fail
     generalize w10.alloc (.cells #[.int .i64 now.wall, .int .i64 now.logic, .int .i64 now.node] 40) = w11 at *
     have m0 := HM11.out.mb.cell
     have hlt0 := HM11.out.mb.lt
     have n0 := HNB.out.cell 0
     have n1 := HNB.out.cell 1
     have n2 := HNB.out.cell 2
     simp only [List.getElem?_cons_zero, List.getElem?_cons_succ] at n0 n1 n2
     by_cases ht0 : tcode = 0
     ·subst ht0
      rw [if_neg (by simp)] at HP
      have HTS := jh (HTS.out rfl)
      go_wp2_with fail
      refine (told_any t 0 now fA firsts.length fc _).mono ?_
      rintro e w12 ⟨rfl, hb12⟩
      have HI12 := jh (HI11.out.ext hb12)
      have HM12 := jh (HM11.out.ext hb12)
      have HF12 := jh (ja HF11.out.1 (HF11.out.2.ext hb12))
      have HNB12 := jh (HNB.out.ext hb12)
      clear hb12 HI11 HM11 HF11 HNB m0 hlt0 n0 n1 n2
      have hbp := (jb w12.heap.size w12).al (.cells (planV (.slice none 0 0) t 0 now (.slice fA firsts.length fc) false false).toArray 113)
      have HI13 := jh (HI12.out.ext hbp)
      have HM13 := jh (HM12.out.ext hbp)
      have HF13 := jh (ja HF12.out.1 ((HF12.out.2.mono (Q := fun k => w.heap.size + 2 ≤ k ∧ k < w12.heap.size) fun k h1 h2 => ⟨h1, h2⟩).ext hbp))
      have HNB13 := jh (HNB12.out.ext hbp)
      have HPB := jh (ja (Blk.new w12 113 (planV (.slice none 0 0) t 0 now (.slice fA firsts.length fc) false false)) HI12.out.size)
      clear hbp HI12 HM12 HF12 HNB12
      unfold planV at *
      go_upto_region 19 with fail
      generalize w12.alloc (.cells #[.slice none 0 0, .int .i64 t.node, .int .i64 t.life, .int .i64 t.num, .int .i64 0, .int .i64 now.wall, .int .i64 now.logic, .int .i64 now.node, .slice fA firsts.length fc, .bool false, .bool false] 113) = w13 at *
      have m0 := HM13.out.mb.cell
      have hlt0 := HM13.out.mb.lt
      have n0 := HNB13.out.cell 0
      have n1 := HNB13.out.cell 1
      have n2 := HNB13.out.cell 2
      have p0 := HPB.out.1.cell 0
      simp only [List.getElem?_cons_zero, List.getElem?_cons_succ] at n0 n1 n2 p0
      have hltp := HPB.out.1.lt
      have f0 := HPB.out.1.frozen 0
      go_upto_region 20 with fail
      have hz13 : (w13.setCell ⟨w12.heap.size, 0, none⟩ (.slice (some ⟨w13.heap.size, 0, none⟩) 1 1)).heap.size = w13.heap.size := by simp
      have PB := ((HPB.out.1.set_ 0 (.slice (some ⟨w13.heap.size, 0, none⟩) 1 1)).alloc (.cells #[.int .i64 4, .int .i64 0, .int .i64 0, .bool false, .int .i64 now.wall, .int .i64 now.logic, .int .i64 now.node, .int .i64 t.node, .int .i64 t.life, .int .i64 t.num, .slice none 0 0, .string b.key, .slice A b.puts.length cc, .int .i64 0, .int .i64 0, .int .i64 0, .int .i64 0, .slice none 0 0] 46)).to (cs' := planV (.slice (some ⟨w13.heap.size, 0, none⟩) 1 1) t 0 now (.slice fA firsts.length fc) false false) rfl
      have hO14 : Only (· = w12.heap.size) w13 ((w13.setCell ⟨w12.heap.size, 0, none⟩ (.slice (some ⟨w13.heap.size, 0, none⟩) 1 1)).alloc (.cells #[.int .i64 4, .int .i64 0, .int .i64 0, .bool false, .int .i64 now.wall, .int .i64 now.logic, .int .i64 now.node, .int .i64 t.node, .int .i64 t.life, .int .i64 t.num, .slice none 0 0, .string b.key, .slice A b.puts.length cc, .int .i64 0, .int .i64 0, .int .i64 0, .int .i64 0, .slice none 0 0] 46)) := ((Only.refl _ _).tr (Only.set_ (by simp) _)).tr (Only.alloc _)
      have hr14 : RecR.Row ((w13.setCell ⟨w12.heap.size, 0, none⟩ (.slice (some ⟨w13.heap.size, 0, none⟩) 1 1)).alloc (.cells #[.int .i64 4, .int .i64 0, .int .i64 0, .bool false, .int .i64 now.wall, .int .i64 now.logic, .int .i64 now.node, .int .i64 t.node, .int .i64 t.life, .int .i64 t.num, .slice none 0 0, .string b.key, .slice A b.puts.length cc, .int .i64 0, .int .i64 0, .int .i64 0, .int .i64 0, .slice none 0 0] 46)) (fun k => (Q k ∧ k < w.heap.size) ∨ k = (w13.setCell ⟨w12.heap.size, 0, none⟩ (.slice (some ⟨w13.heap.size, 0, none⟩) 1 1)).heap.size) (some ⟨(w13.setCell ⟨w12.heap.size, 0, none⟩ (.slice (some ⟨w13.heap.size, 0, none⟩) 1 1)).heap.size, 0, none⟩) [prepR t b now] := Rep.Row.new1 (R := RecR) (w := w13.setCell ⟨w12.heap.size, 0, none⟩ (.slice (some ⟨w13.heap.size, 0, none⟩) 1 1)) (t := 46) (a := prepR t b now) (P := fun k => Q k ∧ k < w.heap.size) (cs := (prepR t b now).cells none 0 A cc none 0)
       (rec_rep.2 ⟨none, 0, A, cc, none, 0, rfl, ⟨i64_small 4 (by omega), i64_small 0 (by omega), i64_small 0 (by omega), HTS.out trivial, HH.out.2.2.2.2.2.2.2.2.2, ⟨Nat.le_refl _, by decide, Rep.Row.nil_⟩, HH.out.2.2.2.2.2.2.2.1.2.1,
        ⟨HH.out.2.2.2.2.2.2.2.2.1.1, HH.out.2.2.2.2.2.2.2.2.1.2, HI13.out.r.only (Only.set_ (F := (· = w12.heap.size)) rfl _) (fun k hk e => by have e1 : k = w12.heap.size := e; have := HPB.out.2; have h3 := hk.2; omega)⟩, ⟨i64_small 0 (by omega), i64_small 0 (by omega), i64_small 0 (by omega), i64_small 0 (by omega)⟩, ⟨Nat.le_refl _, by decide, Rep.Row.nil_⟩⟩⟩)
      rw [hz13] at hr14
      have H14 := jh (ja PB (ja hO14 (ja (HM13.out.rb.only hO14 (fun e => by have e1 : w.heap.size + 1 = w12.heap.size := e; have := HPB.out.2; omega)) hr14)))
      have HF14 := jh (HF13.out.2.only hO14 (fun k hk e => by have e1 : k = w12.heap.size := e; have := hk.2; omega))
      clear PB hO14 hr14 m0 n0 n1 n2 p0 f0
      generalize (w13.setCell ⟨w12.heap.size, 0, none⟩ (.slice (some ⟨w13.heap.size, 0, none⟩) 1 1)).alloc (.cells #[.int .i64 4, .int .i64 0, .int .i64 0, .bool false, .int .i64 now.wall, .int .i64 now.logic, .int .i64 now.node, .int .i64 t.node, .int .i64 t.life, .int .i64 t.num, .slice none 0 0, .string b.key, .slice A b.puts.length cc, .int .i64 0, .int .i64 0, .int .i64 0, .int .i64 0, .slice none 0 0] 46) = w14 at *
      go_wp2_with (first
       | (refine wpList_load_blk (cs := planV (.slice (some ⟨w13.heap.size, 0, none⟩) 1 1) t 0 now (.slice fA firsts.length fc) false false) rfl rfl rfl H14.out.1 Tryz.underlying113 rfl (by kernel_rfl) ?_)
       | (refine wpList_store_blk (cs := planV (.slice (some ⟨w13.heap.size, 0, none⟩) 1 1) t 0 now (.slice fA firsts.length fc) false false) rfl rfl rfl rfl rfl H14.out.2.2.1 (by kernel_rfl) rfl (by simp [planV, Value.oneCell']) ?_; intro w9 hB9 hO9 hz9))
      refine bodyPost_blk (t := 113) (cs := planV (.slice (some ⟨w13.heap.size, 0, none⟩) 1 1) t 0 now (.slice fA firsts.length fc) false false) rfl hB9 rfl Tryz.underlying113 rfl (by kernel_rfl) rfl ?_
      rw [HP.out]
      have hp2 := HPB.out.2
      refine ⟨⟨some ⟨w13.heap.size, 0, none⟩, 1, fA, fc, rfl, ⟨Nat.le_refl 1, by decide⟩, ?_, HF13.out.1, ?_⟩, ?_, ?_⟩
      ·exact (Rep.Row.only H14.out.2.2.2 hO9 (fun k hk e => by have e1 : k = w.heap.size + 1 := e; rcases hk with hk | hk <;> omega)).mono fun k hk _ => hk.elim (fun h => .inl h.1) (fun h => .inr (by have h' : k = w13.heap.size := h; omega))
      ·exact (Rep.Row.only HF14.out hO9 (fun k hk e => by have e1 : k = w.heap.size + 1 := e; omega)).mono fun k hk _ => by omega
      ·exact Blk.only (Blk.only HI13.out.ck H14.out.2.1 (fun e => by have e' : gc = w12.heap.size := e; omega)) hO9 (fun e => by have e' : gc = w.heap.size + 1 := e; omega)
      ·exact (HI13.out.only.trans H14.out.2.1 (fun k hk e => by have e' : k = w12.heap.size := e; omega)).trans hO9 (fun k hk e => by have e' : k = w.heap.size + 1 := e; omega)
     ·have htn : (tcode != 0) = true := by simpa using ht0
      rw [if_pos ht0] at HP
      clear ht0
      go_wp2_with fail
      refine (no_any t tcode _).mono ?_
      rintro e w8 ⟨rfl, hb8⟩
      have HI119 := jh (HI11.out.ext hb8)
      have HM119 := jh (HM11.out.ext hb8)
      clear hb8
      go_wp2_with (refine wpList_store_blk (cs := planV (.slice none 0 0) t tcode zeroStamp (.slice none 0 0) false false) rfl rfl rfl rfl rfl HM119.out.rb (by kernel_rfl) rfl (by simp [planV, Value.oneCell']) ?_; intro w9 hB9 hO9 hz9)
      refine bodyPost_blk (t := 113) (cs := planV (.slice none 0 0) t tcode zeroStamp (.slice none 0 0) false false) rfl hB9 rfl Tryz.underlying113 rfl (by kernel_rfl) rfl ?_
      rw [HP.out]
      exact ⟨PlanOut.no, Blk.only HI119.out.ck hO9 (fun e => by have e' : gc = w.heap.size + 1 := e; omega), HI119.out.only.trans hO9 (fun k hk e => by have e' : k = w.heap.size + 1 := e; omega)⟩
    ·have e0 : (code == 0) = false := by rw [beq_eq_false_iff_ne]; exact h0
     rw [if_neg h0] at HE
     clear h0
     by_cases h4 : code = 4
     ·subst h4
      rw [if_pos rfl] at HE
      rw [HE.out] at HP
      clear HE
      go_wp2_with fail
      refine (told_any t 4 kn.stamp fA firsts.length fc _).mono ?_
      rintro e w8 ⟨rfl, hb8⟩
      have HI79 := jh (HI7.out.ext hb8)
      have HM79 := jh (HM7.out.ext hb8)
      have HF9 := jh (ja HF7.out.1 (HF7.out.2.ext hb8))
      clear hb8
      go_wp2_with (refine wpList_store_blk (cs := planV (.slice none 0 0) t 4 kn.stamp (.slice fA firsts.length fc) false false) rfl rfl rfl rfl rfl HM79.out.rb (by kernel_rfl) rfl (by simp [planV, Value.oneCell']) ?_; intro w9 hB9 hO9 hz9)
      refine bodyPost_blk (t := 113) (cs := planV (.slice none 0 0) t 4 kn.stamp (.slice fA firsts.length fc) false false) rfl hB9 rfl Tryz.underlying113 rfl (by kernel_rfl) rfl ?_
      rw [HP.out]
      exact ⟨⟨none, 0, fA, fc, rfl, ⟨Nat.le_refl _, by decide⟩, Rep.Row.nil_, HF9.out.1, (Rep.Row.only HF9.out.2 hO9 (fun k hk e => by have e1 : k = w.heap.size + 1 := e; have h1 : w.heap.size + 2 ≤ k := hk; omega)).mono fun k hk _ => by have h1 : w.heap.size + 2 ≤ k := hk; omega⟩, Blk.only HI79.out.ck hO9 (fun e => by have e' : gc = w.heap.size + 1 := e; omega), HI79.out.only.trans hO9 (fun k hk e => by have e' : k = w.heap.size + 1 := e; omega)⟩
     ·have e4 : (code == 4) = false := by rw [beq_eq_false_iff_ne]; exact h4
      rw [if_neg h4] at HE
      rw [HE.out] at HP
      clear HE h4
      go_wp2_with fail
      refine (no_any t code _).mono ?_
      rintro e w8 ⟨rfl, hb8⟩
      have HI79 := jh (HI7.out.ext hb8)
      have HM79 := jh (HM7.out.ext hb8)
      clear hb8
      go_wp2_with (refine wpList_store_blk (cs := planV (.slice none 0 0) t code zeroStamp (.slice none 0 0) false false) rfl rfl rfl rfl rfl HM79.out.rb (by kernel_rfl) rfl (by simp [planV, Value.oneCell']) ?_; intro w9 hB9 hO9 hz9)
      refine bodyPost_blk (t := 113) (cs := planV (.slice none 0 0) t code zeroStamp (.slice none 0 0) false false) rfl hB9 rfl Tryz.underlying113 rfl (by kernel_rfl) rfl ?_
      rw [HP.out]
      exact ⟨PlanOut.no, Blk.only HI79.out.ck hO9 (fun e => by have e' : gc = w.heap.size + 1 := e; omega), HI79.out.only.trans hO9 (fun k hk e => by have e' : k = w.heap.size + 1 := e; omega)⟩
   ·have hcn : (code != 0) = true := by simpa using hcode
    rw [if_pos hcode] at HP
    clear hcode
    go_wp2_with fail
    refine (no_any t code _).mono ?_
    rintro e w8 ⟨rfl, hb8⟩
    have HI59 := jh (HI5.out.ext hb8)
    have HM59 := jh (HM5.out.ext hb8)
    clear hb8
    go_wp2_with (refine wpList_store_blk (cs := planV (.slice none 0 0) t code zeroStamp (.slice none 0 0) false false) rfl rfl rfl rfl rfl HM59.out.rb (by kernel_rfl) rfl (by simp [planV, Value.oneCell']) ?_; intro w9 hB9 hO9 hz9)
    refine bodyPost_blk (t := 113) (cs := planV (.slice none 0 0) t code zeroStamp (.slice none 0 0) false false) rfl hB9 rfl Tryz.underlying113 rfl (by kernel_rfl) rfl ?_
    rw [HP.out]
    exact ⟨PlanOut.no, Blk.only HI59.out.ck hO9 (fun e => by have e' : gc = w.heap.size + 1 := e; omega), HI59.out.only.trans hO9 (fun k hk e => by have e' : k = w.heap.size + 1 := e; omega)⟩
 ·rw [hgt] at C1
  dsimp only at C1
  have HP := jh (show prepP s c t b st = (c, ⟨[], 0, h.stamp, h.firsts⟩) from by unfold prepP; rw [hgt])
  clear hgt
  unfold Held.cellsV at C1
  go_wp2_with fail
  refine C1.mono ?_
  clear C1 m0 m1 m2
  rintro e w2 ⟨⟨pA, pc, fA, fc, rfl, hf1, hf2, hfr⟩, hb2⟩
  have HFR := jh (ja (ja hf1 hf2) (hfr.mono (Q := fun k => w.heap.size + 2 ≤ k) fun k hk _ => by have := HI.out.size; omega))
  have hb2' := hb2.al (.cells #[.int .i64 h.tx.node, .int .i64 h.tx.life, .int .i64 h.tx.num, .string h.batch.key, .slice pA h.batch.puts.length pc, .int .i64 h.stamp.wall, .int .i64 h.stamp.logic, .int .i64 h.stamp.node, .slice fA h.firsts.length fc] 192)
  have HFR := jh (ja HFR.out.1 (HFR.out.2.ext ((jb _ _).al (.cells #[.int .i64 h.tx.node, .int .i64 h.tx.life, .int .i64 h.tx.num, .string h.batch.key, .slice pA h.batch.puts.length pc, .int .i64 h.stamp.wall, .int .i64 h.stamp.logic, .int .i64 h.stamp.node, .slice fA h.firsts.length fc] 192))))
  have HI2 := jh (HI.out.ext hb2')
  have HM2 := jh (HM.out.ext hb2')
  have m0 := HM2.out.mb.cell 0
  have m1 := HM2.out.mb.cell 1
  have m2 := HM2.out.mb.cell 2
  simp only [List.getElem?_cons_zero, List.getElem?_cons_succ] at m0 m1 m2
  have hlt0 := HM2.out.mb.lt
  clear hb2 hb2' hf1 hf2 hfr HI HM
  go_wp2_with fail
  refine (told_any t 0 h.stamp fA h.firsts.length fc _).mono ?_
  rintro e w8 ⟨rfl, hb8⟩
  have HI29 := jh (HI2.out.ext hb8)
  have HM29 := jh (HM2.out.ext hb8)
  have HF9 := jh (ja HFR.out.1 (HFR.out.2.ext hb8))
  clear hb8
  go_wp2_with (refine wpList_store_blk (cs := planV (.slice none 0 0) t 0 h.stamp (.slice fA h.firsts.length fc) false false) rfl rfl rfl rfl rfl HM29.out.rb (by kernel_rfl) rfl (by simp [planV, Value.oneCell']) ?_; intro w9 hB9 hO9 hz9)
  refine bodyPost_blk (t := 113) (cs := planV (.slice none 0 0) t 0 h.stamp (.slice fA h.firsts.length fc) false false) rfl hB9 rfl Tryz.underlying113 rfl (by kernel_rfl) rfl ?_
  rw [HP.out]
  exact ⟨⟨none, 0, fA, fc, rfl, ⟨Nat.le_refl _, by decide⟩, Rep.Row.nil_, HF9.out.1, (Rep.Row.only HF9.out.2 hO9 (fun k hk e => by have e1 : k = w.heap.size + 1 := e; have h1 : w.heap.size + 2 ≤ k := hk; omega)).mono fun k hk _ => by have h1 : w.heap.size + 2 ≤ k := hk; omega⟩, Blk.only HI29.out.ck hO9 (fun e => by have e' : gc = w.heap.size + 1 := e; omega), HI29.out.only.trans hO9 (fun k hk e => by have e' : k = w.heap.size + 1 := e; omega)⟩
end Go.Proofs.YtcmjgghkmdbphaaGreatDoor
namespace Go.Proofs.YtcmjgghkmdbphaaGreatDoor
open Go.RowKit
def decR (t : Tx) (yes : Bool) (st : Stamp) : Rec := ⟨5, 0, 0, yes, st, t, [], ⟨⟨#[]⟩, []⟩, ⟨0, 0, 0, 0⟩, []⟩
def decP (s : St) (c : Clk) (t : Tx) (yes : Bool) (st : Stamp) : Clk × List Rec × Bool :=
 if (getA t s.held).isNone then (c, [], true)
 else if yes then (if (mergeC c st).2 ≠ 0 then ((mergeC c st).1, [], false) else ((mergeC c st).1, [decR t true st], true))
 else (c, [decR t false zeroStamp], true)
def decV (t : Tx) (yes : Bool) (st : Stamp) : List Value := [.int .i64 t.node, .int .i64 t.life, .int .i64 t.num, .bool yes, .int .i64 st.wall, .int .i64 st.logic, .int .i64 st.node]
def zeroTx : Tx := ⟨0, 0, 0⟩
def DecOut (B : Nat) (l : List Rec) (d y : Bool) (e : Ending) (w' : World) : Prop :=
 ∃ rA rc, e = .returned (.agg (planV (.slice rA l.length rc) zeroTx 0 zeroStamp (.slice none 0 0) d y).toArray) ∧ (l.length ≤ rc ∧ rc ≤ 9223372036854775807) ∧ RecR.Row w' (fun k => B ≤ k) rA l
structure DeIn (w : World) (P : Nat → Prop) (g gc : Nat) (s : St) (c : Clk) (cs zs ps : List Value) (pb : Nat) (W : World) : Prop where
 st : StAt W P g s
 ck : CkAt W gc c
 mb : Blk W w.heap.size 117 cs
 rb : Blk W (w.heap.size + 1) 113 zs
 pb : Blk W (w.heap.size + 1 + 1) 113 ps
 only : Only (· = gc) w W
section
variable {w W W' : World} {P : Nat → Prop} {g gc : Nat} {s : St} {c c' : Clk} {cs zs ps : List Value} {pb : Nat}
theorem DeIn.ext (h : DeIn w P g gc s c cs zs ps pb W) (hb : Below W.heap.size W W') : DeIn w P g gc s c cs zs ps pb W' :=
 ⟨by obtain ⟨v, a1, a2⟩ := h.st; exact ⟨v, a1.ext hb, a2.same (js hb)⟩, Blk.ext h.ck hb, h.mb.ext hb, h.rb.ext hb, h.pb.ext hb, h.only.tr (jo hb)⟩
theorem DeIn.clk (h : DeIn w P g gc s c cs zs ps pb W) (hgc : gc < w.heap.size) (hg : g ≠ gc) (hP : ¬ P gc) (hc : CkAt W' gc c') (hO : Only (· = gc) W W') : DeIn w P g gc s c' cs zs ps pb W' :=
 ⟨by obtain ⟨v, a1, a2⟩ := h.st; exact ⟨v, a1.only hO hg, a2.same (Same.of_only hO fun k hk e => by have e' : k = gc := e; exact hP (e' ▸ hk))⟩, hc,
  h.mb.only hO (fun e => by have e' : w.heap.size = gc := e; omega), h.rb.only hO (fun e => by have e' : w.heap.size + 1 = gc := e; omega), h.pb.only hO (fun e => by have e' : w.heap.size + 1 + 1 = gc := e; omega), h.only.tr hO⟩
theorem DeIn.oth {b : Nat} (h : DeIn w (fun k => P k ∧ k < w.heap.size) g gc s c cs zs ps pb W) (hb : w.heap.size + 1 + 1 < b) (hg : g < w.heap.size) (hgc : gc < w.heap.size) (hO : Only (· = b) W W') : DeIn w (fun k => P k ∧ k < w.heap.size) g gc s c cs zs ps pb W' :=
 ⟨by obtain ⟨v, a1, a2⟩ := h.st; exact ⟨v, a1.only hO (fun e => by have e' : g = b := e; omega), a2.same (Same.of_only hO fun k hk e => by have e' : k = b := e; have := hk.2; omega)⟩, Blk.only h.ck hO (fun e => by have e' : gc = b := e; omega),
  h.mb.only hO (fun e => by have e' : w.heap.size = b := e; omega), h.rb.only hO (fun e => by have e' : w.heap.size + 1 = b := e; omega), h.pb.only hO (fun e => by have e' : w.heap.size + 1 + 1 = b := e; omega), h.only.trans hO (fun k hk e => by have e' : k = b := e; omega)⟩
theorem DeIn.fin (h : DeIn w P g gc s c cs zs ps pb W) (hgc : gc < w.heap.size) (hO : Only (fun k => k = w.heap.size + 1 ∨ k = w.heap.size + 1 + 1) W W') : CkAt W' gc c ∧ Only (· = gc) w W' :=
 ⟨Blk.only h.ck hO (fun e => by rcases (e : gc = _ ∨ gc = _) with e' | e' <;> omega), h.only.trans hO (fun k hk e => by rcases (e : k = _ ∨ k = _) with e' | e' <;> omega)⟩
end
theorem partDecide_any (g gc : Nat) (s : St) (c : Clk) (t : Tx) (yes : Bool) (st : Stamp) (P : Nat → Prop) (w : World) (h : StAt w P g s) (hF : Fit s) (hl : s.held.length ≤ 1000000) (hk : ∀ p ∈ s.held, p.2.tx = p.1)
 (hc : CkAt w gc c) (hco : c.Ok) (hg : g ≠ gc) (hP : ¬ P gc) (ht : t.fit) (hst : st.fit) :
 Calls Tryz.prog 60 #[ptrV g, .pointer (some ⟨gc, 0, none⟩), .agg (decV t yes st).toArray] w fun e w' => DecOut w.heap.size (decP s c t yes st).2.1 (decP s c t yes st).2.2 yes e w' ∧ CkAt w' gc (decP s c t yes st).1 ∧ Only (· = gc) w w' := by
 have hgc := hc.lt
 have hs := hF.self
 have hb1 := (((jb w.heap.size w).al (.cells (decV t yes st).toArray 117)).al (.cells planZ.toArray 113)).al (.cells (planV (.slice none 0 0) zeroTx 0 zeroStamp (.slice none 0 0) true yes).toArray 113)
 have B0 := ((Blk.new w 117 (decV t yes st)).alloc (.cells planZ.toArray 113)).alloc (.cells (planV (.slice none 0 0) zeroTx 0 zeroStamp (.slice none 0 0) true yes).toArray 113)
 have B1 := (Blk.new1 w (.cells (decV t yes st).toArray 117) 113 planZ).alloc (.cells (planV (.slice none 0 0) zeroTx 0 zeroStamp (.slice none 0 0) true yes).toArray 113)
 have B2 := Blk.new1 (w.alloc (.cells (decV t yes st).toArray 117)) (.cells planZ.toArray 113) 113 (planV (.slice none 0 0) zeroTx 0 zeroStamp (.slice none 0 0) true yes)
 rw [World.size_alloc] at B2
 have hgl := h.lt
 have HI := jh (show DeIn w (fun k => P k ∧ k < w.heap.size) g gc s c (decV t yes st) planZ (planV (.slice none 0 0) zeroTx 0 zeroStamp (.slice none 0 0) true yes) 0 _ from ⟨by obtain ⟨v, a1, a2⟩ := h; exact ⟨v, a1.ext hb1, a2.low.same (js hb1)⟩, Blk.ext hc hb1, B0, B1, B2, jo hb1⟩)
 have HH := jh (ja hF (ja hl (ja hk (ja hco (ja hg (ja hP (ja ht hst)))))))
 clear h hF hl hk hc hco hg hP ht hst B0 B1 B2 hb1
 unfold ptrV
 unfold decV planZ planV zeroTx zeroStamp at *
 go_enter Tryz.func60, Tryz.ntmps60
 go_upto_region 2 with fail
 generalize ((w.alloc (.cells #[.int .i64 t.node, .int .i64 t.life, .int .i64 t.num, .bool yes, .int .i64 st.wall, .int .i64 st.logic, .int .i64 st.node] 117)).alloc (.cells #[.slice none 0 0, .int .i64 0, .int .i64 0, .int .i64 0, .int .i64 0, .int .i64 0, .int .i64 0, .int .i64 0, .slice none 0 0, .bool false, .bool false] 113)).alloc (.cells #[.slice none 0 0, .int .i64 0, .int .i64 0, .int .i64 0, .int .i64 0, .int .i64 0, .int .i64 0, .int .i64 0, .slice none 0 0, .bool true, .bool yes] 113) = w1 at *
 have C1 := partHeld_any g s t _ w1 HI.out.st hs HH.out.1.held HH.out.2.1 HH.out.2.2.1
 unfold ptrV HeldOut at C1
 have m0 := HI.out.mb.cell
 have hlt0 := HI.out.mb.lt
 rcases hgt : getA t s.held with _ | h
 ·rw [hgt] at C1
  dsimp only at C1
  have HP := jh (show decP s c t yes st = (c, [], true) from by unfold decP; rw [hgt]; rfl)
  clear hgt
  unfold Held.zeros at C1
  go_wp2_with fail
  refine C1.mono ?_
  clear C1 m0 hlt0
  rintro e w2 ⟨rfl, hb2⟩
  have hb3 := hb2.al (.cells #[.int .i64 0, .int .i64 0, .int .i64 0, .string ⟨#[]⟩, .slice none 0 0, .int .i64 0, .int .i64 0, .int .i64 0, .slice none 0 0] 192)
  have HI3 := jh (HI.out.ext hb3)
  clear hb2 hb3 HI
  go_wp2_with (first
   | (refine wpList_load_blk (cs := [.slice none 0 0, .int .i64 0, .int .i64 0, .int .i64 0, .int .i64 0, .int .i64 0, .int .i64 0, .int .i64 0, .slice none 0 0, .bool true, .bool yes]) rfl rfl rfl HI3.out.pb Tryz.underlying113 rfl (by kernel_rfl) ?_)
   | (refine wpList_store_blk (cs := [.slice none 0 0, .int .i64 0, .int .i64 0, .int .i64 0, .int .i64 0, .int .i64 0, .int .i64 0, .int .i64 0, .slice none 0 0, .bool true, .bool yes]) rfl rfl rfl rfl rfl HI3.out.rb (by kernel_rfl) rfl (by simp [Value.oneCell']) ?_; intro w9 hB9 hO9 hz9))
  refine bodyPost_blk (t := 113) (cs := [.slice none 0 0, .int .i64 0, .int .i64 0, .int .i64 0, .int .i64 0, .int .i64 0, .int .i64 0, .int .i64 0, .slice none 0 0, .bool true, .bool yes]) rfl hB9 rfl Tryz.underlying113 rfl (by kernel_rfl) rfl ?_
  rw [HP.out]
  exact ⟨⟨none, 0, rfl, ⟨Nat.le_refl _, by decide⟩, Rep.Row.nil_⟩, HI3.out.fin hgc (hO9.mono fun k e => .inl e)⟩
 ·rw [hgt] at C1
  dsimp only at C1
  have HP := jh (show decP s c t yes st = if yes then (if (mergeC c st).2 ≠ 0 then ((mergeC c st).1, [], false) else ((mergeC c st).1, [decR t true st], true)) else (c, [decR t false zeroStamp], true) from by unfold decP; rw [hgt]; rfl)
  clear hgt
  unfold Held.cellsV at C1
  go_wp2_with fail
  refine C1.mono ?_
  clear C1 m0 hlt0
  rintro e w2 ⟨⟨pA, pc, fA, fc, rfl, _, _, _⟩, hb2⟩
  have hb3 := hb2.al (.cells #[.int .i64 h.tx.node, .int .i64 h.tx.life, .int .i64 h.tx.num, .string h.batch.key, .slice pA h.batch.puts.length pc, .int .i64 h.stamp.wall, .int .i64 h.stamp.logic, .int .i64 h.stamp.node, .slice fA h.firsts.length fc] 192)
  have HI3 := jh (HI.out.ext hb3)
  clear hb2 hb3 HI
  have m0 := HI3.out.mb.cell
  have hlt0 := HI3.out.mb.lt
  go_upto_region 5 with fail
  clear m0 hlt0
  generalize w2.alloc (.cells #[.int .i64 h.tx.node, .int .i64 h.tx.life, .int .i64 h.tx.num, .string h.batch.key, .slice pA h.batch.puts.length pc, .int .i64 h.stamp.wall, .int .i64 h.stamp.logic, .int .i64 h.stamp.node, .slice fA h.firsts.length fc] 192) = w3 at *
  have m0 := HI3.out.mb.cell
  have hlt0 := HI3.out.mb.lt
  go_upto_region 6 with (first | (refine wpList_store_new (cs := #[.int .i64 5, .int .i64 0, .int .i64 0, .bool yes, .int .i64 0, .int .i64 0, .int .i64 0, .int .i64 t.node, .int .i64 t.life, .int .i64 t.num, .slice none 0 0, .string ⟨#[]⟩, .slice none 0 0, .int .i64 0, .int .i64 0, .int .i64 0, .int .i64 0, .slice none 0 0]) rfl rfl rfl rfl rfl (by kernel_rfl) rfl (by simp [Value.oneCell']) ?_) | fail)
  have hbr := (jb _ w3).al (.cells #[.int .i64 5, .int .i64 0, .int .i64 0, .bool yes, .int .i64 0, .int .i64 0, .int .i64 0, .int .i64 t.node, .int .i64 t.life, .int .i64 t.num, .slice none 0 0, .string ⟨#[]⟩, .slice none 0 0, .int .i64 0, .int .i64 0, .int .i64 0, .int .i64 0, .slice none 0 0] 46)
  have HI4 := jh (HI3.out.ext hbr)
  have hz2 : w.heap.size + 1 + 1 < w3.heap.size := HI3.out.pb.lt
  have RB := jh (Blk.new w3 46 [.int .i64 5, .int .i64 0, .int .i64 0, .bool yes, .int .i64 0, .int .i64 0, .int .i64 0, .int .i64 t.node, .int .i64 t.life, .int .i64 t.num, .slice none 0 0, .string ⟨#[]⟩, .slice none 0 0, .int .i64 0, .int .i64 0, .int .i64 0, .int .i64 0, .slice none 0 0])
  clear hbr HI3 m0 hlt0
  generalize w3.alloc (.cells #[.int .i64 5, .int .i64 0, .int .i64 0, .bool yes, .int .i64 0, .int .i64 0, .int .i64 0, .int .i64 t.node, .int .i64 t.life, .int .i64 t.num, .slice none 0 0, .string ⟨#[]⟩, .slice none 0 0, .int .i64 0, .int .i64 0, .int .i64 0, .int .i64 0, .slice none 0 0] 46) = w4 at *
  have m0 := HI4.out.mb.cell
  have hlt0 := HI4.out.mb.lt
  cases yes
  ·simp only [Bool.false_eq_true, if_false] at HP
   have hltp := HI4.out.pb.lt
   have hltr := HI4.out.rb.lt
   have p0 := HI4.out.pb.cell 0
   have f0 := HI4.out.pb.frozen 0
   simp only [List.getElem?_cons_zero] at p0
   go_upto_region 12 with (first
    | (refine wpList_load_blk (cs := [.int .i64 5, .int .i64 0, .int .i64 0, .bool false, .int .i64 0, .int .i64 0, .int .i64 0, .int .i64 t.node, .int .i64 t.life, .int .i64 t.num, .slice none 0 0, .string ⟨#[]⟩, .slice none 0 0, .int .i64 0, .int .i64 0, .int .i64 0, .int .i64 0, .slice none 0 0]) rfl rfl rfl RB.out Tryz.underlying46 rfl (by kernel_rfl) ?_)
    | fail)
   have hzX : (w4.setCell ⟨w.heap.size + 1 + 1, 0, none⟩ (.slice (some ⟨w4.heap.size, 0, none⟩) 1 1)).heap.size = w4.heap.size := by simp
   have PB := ((HI4.out.pb.set_ 0 (.slice (some ⟨w4.heap.size, 0, none⟩) 1 1)).alloc (.cells #[.int .i64 5, .int .i64 0, .int .i64 0, .bool false, .int .i64 0, .int .i64 0, .int .i64 0, .int .i64 t.node, .int .i64 t.life, .int .i64 t.num, .slice none 0 0, .string ⟨#[]⟩, .slice none 0 0, .int .i64 0, .int .i64 0, .int .i64 0, .int .i64 0, .slice none 0 0] 46)).to (cs' := [(.slice (some ⟨w4.heap.size, 0, none⟩) 1 1), .int .i64 0, .int .i64 0, .int .i64 0, .int .i64 0, .int .i64 0, .int .i64 0, .int .i64 0, .slice none 0 0, .bool true, .bool false]) rfl
   have hOX : Only (fun k => k = w.heap.size + 1 ∨ k = w.heap.size + 1 + 1) w4 ((w4.setCell ⟨w.heap.size + 1 + 1, 0, none⟩ (.slice (some ⟨w4.heap.size, 0, none⟩) 1 1)).alloc (.cells #[.int .i64 5, .int .i64 0, .int .i64 0, .bool false, .int .i64 0, .int .i64 0, .int .i64 0, .int .i64 t.node, .int .i64 t.life, .int .i64 t.num, .slice none 0 0, .string ⟨#[]⟩, .slice none 0 0, .int .i64 0, .int .i64 0, .int .i64 0, .int .i64 0, .slice none 0 0] 46)) := ((Only.refl _ _).tr (Only.set_ (by simp) _)).tr (Only.alloc _)
   have hrX : RecR.Row ((w4.setCell ⟨w.heap.size + 1 + 1, 0, none⟩ (.slice (some ⟨w4.heap.size, 0, none⟩) 1 1)).alloc (.cells #[.int .i64 5, .int .i64 0, .int .i64 0, .bool false, .int .i64 0, .int .i64 0, .int .i64 0, .int .i64 t.node, .int .i64 t.life, .int .i64 t.num, .slice none 0 0, .string ⟨#[]⟩, .slice none 0 0, .int .i64 0, .int .i64 0, .int .i64 0, .int .i64 0, .slice none 0 0] 46)) (fun k => False ∨ k = (w4.setCell ⟨w.heap.size + 1 + 1, 0, none⟩ (.slice (some ⟨w4.heap.size, 0, none⟩) 1 1)).heap.size) (some ⟨(w4.setCell ⟨w.heap.size + 1 + 1, 0, none⟩ (.slice (some ⟨w4.heap.size, 0, none⟩) 1 1)).heap.size, 0, none⟩) [decR t false zeroStamp] := Rep.Row.new1 (R := RecR) (w := (w4.setCell ⟨w.heap.size + 1 + 1, 0, none⟩ (.slice (some ⟨w4.heap.size, 0, none⟩) 1 1))) (t := 46) (a := decR t false zeroStamp) (P := fun _ => False) (cs := (decR t false zeroStamp).cells none 0 none 0 none 0)
    (rec_rep.2 ⟨none, 0, none, 0, none, 0, rfl, ⟨i64_small 5 (by omega), i64_small 0 (by omega), i64_small 0 (by omega), ⟨i64_small 0 (by omega), i64_small 0 (by omega), i64_small 0 (by omega)⟩, HH.out.2.2.2.2.2.2.1, ⟨Nat.le_refl _, by decide, Rep.Row.nil_⟩, (by show (0 : Nat) ≤ _; omega), ⟨Nat.le_refl _, by decide, Rep.Row.nil_⟩, ⟨i64_small 0 (by omega), i64_small 0 (by omega), i64_small 0 (by omega), i64_small 0 (by omega)⟩, ⟨Nat.le_refl _, by decide, Rep.Row.nil_⟩⟩⟩)
   rw [hzX] at hrX
   have HX := jh (ja PB (ja hOX (ja ((HI4.out.rb.far (p := ⟨w.heap.size + 1 + 1, 0, none⟩) (by simp) (.slice (some ⟨w4.heap.size, 0, none⟩) 1 1)).alloc (.cells #[.int .i64 5, .int .i64 0, .int .i64 0, .bool false, .int .i64 0, .int .i64 0, .int .i64 0, .int .i64 t.node, .int .i64 t.life, .int .i64 t.num, .slice none 0 0, .string ⟨#[]⟩, .slice none 0 0, .int .i64 0, .int .i64 0, .int .i64 0, .int .i64 0, .slice none 0 0] 46)) hrX)))
   clear PB hOX hrX hzX p0 f0 m0 hlt0
   generalize (w4.setCell ⟨w.heap.size + 1 + 1, 0, none⟩ (.slice (some ⟨w4.heap.size, 0, none⟩) 1 1)).alloc (.cells #[.int .i64 5, .int .i64 0, .int .i64 0, .bool false, .int .i64 0, .int .i64 0, .int .i64 0, .int .i64 t.node, .int .i64 t.life, .int .i64 t.num, .slice none 0 0, .string ⟨#[]⟩, .slice none 0 0, .int .i64 0, .int .i64 0, .int .i64 0, .int .i64 0, .slice none 0 0] 46) = w8 at *
   go_wp2_with (first
    | (refine wpList_load_blk (cs := [(.slice (some ⟨w4.heap.size, 0, none⟩) 1 1), .int .i64 0, .int .i64 0, .int .i64 0, .int .i64 0, .int .i64 0, .int .i64 0, .int .i64 0, .slice none 0 0, .bool true, .bool false]) rfl rfl rfl HX.out.1 Tryz.underlying113 rfl (by kernel_rfl) ?_)
    | (refine wpList_store_blk (cs := [(.slice (some ⟨w4.heap.size, 0, none⟩) 1 1), .int .i64 0, .int .i64 0, .int .i64 0, .int .i64 0, .int .i64 0, .int .i64 0, .int .i64 0, .slice none 0 0, .bool true, .bool false]) rfl rfl rfl rfl rfl HX.out.2.2.1 (by kernel_rfl) rfl (by simp [Value.oneCell']) ?_; intro w9 hB9 hO9 hz9))
   refine bodyPost_blk (t := 113) (cs := [(.slice (some ⟨w4.heap.size, 0, none⟩) 1 1), .int .i64 0, .int .i64 0, .int .i64 0, .int .i64 0, .int .i64 0, .int .i64 0, .int .i64 0, .slice none 0 0, .bool true, .bool false]) rfl hB9 rfl Tryz.underlying113 rfl (by kernel_rfl) rfl ?_
   rw [HP.out]
   refine ⟨⟨some ⟨w4.heap.size, 0, none⟩, 1, rfl, ⟨Nat.le_refl 1, by decide⟩, (Rep.Row.only HX.out.2.2.2 hO9 (fun k hk e => by have e1 : k = w.heap.size + 1 := e; rcases hk with hk | hk <;> omega)).mono fun k hk _ => hk.elim (fun h => h.elim) (fun h => by have h' : k = w4.heap.size := h; omega)⟩, HI4.out.fin hgc (HX.out.2.1.tr (hO9.mono fun k e => .inl e))⟩
  ·simp only [if_true] at HP
   have CM := clkMerge_any gc c st w4 HI4.out.ck HH.out.2.2.2.1
   go_wp2_with fail
   refine CM.mono ?_
   clear CM
   rintro e w5 ⟨rfl, hc5, hO5⟩
   have HI5 := jh (HI4.out.clk hgc HH.out.2.2.2.2.1 (fun h => HH.out.2.2.2.2.2.1 h.1) hc5 hO5)
   have RB5 := jh (RB.out.only hO5 (fun e => by have e' : w3.heap.size = gc := e; omega))
   clear hc5 hO5 HI4 RB m0 hlt0
   have m0 := HI5.out.mb.cell
   have hlt0 := HI5.out.mb.lt
   generalize mergeC c st = mc at *
   obtain ⟨c1, code⟩ := mc
   dsimp only at *
   by_cases hcode : code = 0
   ·subst hcode
    rw [if_neg (by simp)] at HP
    have r4 := RB5.out.cell 4
    have r5 := RB5.out.cell 5
    have r6 := RB5.out.cell 6
    simp only [List.getElem?_cons_zero, List.getElem?_cons_succ] at r4 r5 r6
    have rf := RB5.out.frozen
    have hltr := RB5.out.lt
    go_upto_region 11 with fail
    have hO6 : Only (· = w3.heap.size) w5 (((w5.setCell ⟨w3.heap.size, 4, none⟩ (.int .i64 st.wall)).setCell ⟨w3.heap.size, 5, none⟩ (.int .i64 st.logic)).setCell ⟨w3.heap.size, 6, none⟩ (.int .i64 st.node)) := (((Only.refl _ _).tr (Only.set_ (by simp) _)).tr (Only.set_ (by simp) _)).tr (Only.set_ (by simp) _)
    have HI6 := jh (HI5.out.oth (by omega) hgl hgc hO6)
    have RB6 := jh ((((RB5.out.set_ 4 (.int .i64 st.wall)).set_ 5 (.int .i64 st.logic)).set_ 6 (.int .i64 st.node)).to (cs' := [.int .i64 5, .int .i64 0, .int .i64 0, .bool true, .int .i64 st.wall, .int .i64 st.logic, .int .i64 st.node, .int .i64 t.node, .int .i64 t.life, .int .i64 t.num, .slice none 0 0, .string ⟨#[]⟩, .slice none 0 0, .int .i64 0, .int .i64 0, .int .i64 0, .int .i64 0, .slice none 0 0]) rfl)
    clear hO6 r4 r5 r6 rf hltr HI5 RB5 m0 hlt0
    generalize ((w5.setCell ⟨w3.heap.size, 4, none⟩ (.int .i64 st.wall)).setCell ⟨w3.heap.size, 5, none⟩ (.int .i64 st.logic)).setCell ⟨w3.heap.size, 6, none⟩ (.int .i64 st.node) = w6 at *
    have m0 := HI6.out.mb.cell
    have hlt0 := HI6.out.mb.lt
    have hltp := HI6.out.pb.lt
    have hltr := HI6.out.rb.lt
    have p0 := HI6.out.pb.cell 0
    have f0 := HI6.out.pb.frozen 0
    simp only [List.getElem?_cons_zero] at p0
    go_upto_region 12 with (first
     | (refine wpList_load_blk (cs := [.int .i64 5, .int .i64 0, .int .i64 0, .bool true, .int .i64 st.wall, .int .i64 st.logic, .int .i64 st.node, .int .i64 t.node, .int .i64 t.life, .int .i64 t.num, .slice none 0 0, .string ⟨#[]⟩, .slice none 0 0, .int .i64 0, .int .i64 0, .int .i64 0, .int .i64 0, .slice none 0 0]) rfl rfl rfl RB6.out Tryz.underlying46 rfl (by kernel_rfl) ?_)
     | fail)
    have hzX : (w6.setCell ⟨w.heap.size + 1 + 1, 0, none⟩ (.slice (some ⟨w6.heap.size, 0, none⟩) 1 1)).heap.size = w6.heap.size := by simp
    have PB := ((HI6.out.pb.set_ 0 (.slice (some ⟨w6.heap.size, 0, none⟩) 1 1)).alloc (.cells #[.int .i64 5, .int .i64 0, .int .i64 0, .bool true, .int .i64 st.wall, .int .i64 st.logic, .int .i64 st.node, .int .i64 t.node, .int .i64 t.life, .int .i64 t.num, .slice none 0 0, .string ⟨#[]⟩, .slice none 0 0, .int .i64 0, .int .i64 0, .int .i64 0, .int .i64 0, .slice none 0 0] 46)).to (cs' := [(.slice (some ⟨w6.heap.size, 0, none⟩) 1 1), .int .i64 0, .int .i64 0, .int .i64 0, .int .i64 0, .int .i64 0, .int .i64 0, .int .i64 0, .slice none 0 0, .bool true, .bool true]) rfl
    have hOX : Only (fun k => k = w.heap.size + 1 ∨ k = w.heap.size + 1 + 1) w6 ((w6.setCell ⟨w.heap.size + 1 + 1, 0, none⟩ (.slice (some ⟨w6.heap.size, 0, none⟩) 1 1)).alloc (.cells #[.int .i64 5, .int .i64 0, .int .i64 0, .bool true, .int .i64 st.wall, .int .i64 st.logic, .int .i64 st.node, .int .i64 t.node, .int .i64 t.life, .int .i64 t.num, .slice none 0 0, .string ⟨#[]⟩, .slice none 0 0, .int .i64 0, .int .i64 0, .int .i64 0, .int .i64 0, .slice none 0 0] 46)) := ((Only.refl _ _).tr (Only.set_ (by simp) _)).tr (Only.alloc _)
    have hrX : RecR.Row ((w6.setCell ⟨w.heap.size + 1 + 1, 0, none⟩ (.slice (some ⟨w6.heap.size, 0, none⟩) 1 1)).alloc (.cells #[.int .i64 5, .int .i64 0, .int .i64 0, .bool true, .int .i64 st.wall, .int .i64 st.logic, .int .i64 st.node, .int .i64 t.node, .int .i64 t.life, .int .i64 t.num, .slice none 0 0, .string ⟨#[]⟩, .slice none 0 0, .int .i64 0, .int .i64 0, .int .i64 0, .int .i64 0, .slice none 0 0] 46)) (fun k => False ∨ k = (w6.setCell ⟨w.heap.size + 1 + 1, 0, none⟩ (.slice (some ⟨w6.heap.size, 0, none⟩) 1 1)).heap.size) (some ⟨(w6.setCell ⟨w.heap.size + 1 + 1, 0, none⟩ (.slice (some ⟨w6.heap.size, 0, none⟩) 1 1)).heap.size, 0, none⟩) [decR t true st] := Rep.Row.new1 (R := RecR) (w := (w6.setCell ⟨w.heap.size + 1 + 1, 0, none⟩ (.slice (some ⟨w6.heap.size, 0, none⟩) 1 1))) (t := 46) (a := decR t true st) (P := fun _ => False) (cs := (decR t true st).cells none 0 none 0 none 0)
     (rec_rep.2 ⟨none, 0, none, 0, none, 0, rfl, ⟨i64_small 5 (by omega), i64_small 0 (by omega), i64_small 0 (by omega), HH.out.2.2.2.2.2.2.2, HH.out.2.2.2.2.2.2.1, ⟨Nat.le_refl _, by decide, Rep.Row.nil_⟩, (by show (0 : Nat) ≤ _; omega), ⟨Nat.le_refl _, by decide, Rep.Row.nil_⟩, ⟨i64_small 0 (by omega), i64_small 0 (by omega), i64_small 0 (by omega), i64_small 0 (by omega)⟩, ⟨Nat.le_refl _, by decide, Rep.Row.nil_⟩⟩⟩)
    rw [hzX] at hrX
    have HX := jh (ja PB (ja hOX (ja ((HI6.out.rb.far (p := ⟨w.heap.size + 1 + 1, 0, none⟩) (by simp) (.slice (some ⟨w6.heap.size, 0, none⟩) 1 1)).alloc (.cells #[.int .i64 5, .int .i64 0, .int .i64 0, .bool true, .int .i64 st.wall, .int .i64 st.logic, .int .i64 st.node, .int .i64 t.node, .int .i64 t.life, .int .i64 t.num, .slice none 0 0, .string ⟨#[]⟩, .slice none 0 0, .int .i64 0, .int .i64 0, .int .i64 0, .int .i64 0, .slice none 0 0] 46)) hrX)))
    clear PB hOX hrX hzX p0 f0 m0 hlt0
    generalize (w6.setCell ⟨w.heap.size + 1 + 1, 0, none⟩ (.slice (some ⟨w6.heap.size, 0, none⟩) 1 1)).alloc (.cells #[.int .i64 5, .int .i64 0, .int .i64 0, .bool true, .int .i64 st.wall, .int .i64 st.logic, .int .i64 st.node, .int .i64 t.node, .int .i64 t.life, .int .i64 t.num, .slice none 0 0, .string ⟨#[]⟩, .slice none 0 0, .int .i64 0, .int .i64 0, .int .i64 0, .int .i64 0, .slice none 0 0] 46) = w8 at *
    go_wp2_with (first
     | (refine wpList_load_blk (cs := [(.slice (some ⟨w6.heap.size, 0, none⟩) 1 1), .int .i64 0, .int .i64 0, .int .i64 0, .int .i64 0, .int .i64 0, .int .i64 0, .int .i64 0, .slice none 0 0, .bool true, .bool true]) rfl rfl rfl HX.out.1 Tryz.underlying113 rfl (by kernel_rfl) ?_)
     | (refine wpList_store_blk (cs := [(.slice (some ⟨w6.heap.size, 0, none⟩) 1 1), .int .i64 0, .int .i64 0, .int .i64 0, .int .i64 0, .int .i64 0, .int .i64 0, .int .i64 0, .slice none 0 0, .bool true, .bool true]) rfl rfl rfl rfl rfl HX.out.2.2.1 (by kernel_rfl) rfl (by simp [Value.oneCell']) ?_; intro w9 hB9 hO9 hz9))
    refine bodyPost_blk (t := 113) (cs := [(.slice (some ⟨w6.heap.size, 0, none⟩) 1 1), .int .i64 0, .int .i64 0, .int .i64 0, .int .i64 0, .int .i64 0, .int .i64 0, .int .i64 0, .slice none 0 0, .bool true, .bool true]) rfl hB9 rfl Tryz.underlying113 rfl (by kernel_rfl) rfl ?_
    rw [HP.out]
    refine ⟨⟨some ⟨w6.heap.size, 0, none⟩, 1, rfl, ⟨Nat.le_refl 1, by decide⟩, (Rep.Row.only HX.out.2.2.2 hO9 (fun k hk e => by have e1 : k = w.heap.size + 1 := e; rcases hk with hk | hk <;> omega)).mono fun k hk _ => hk.elim (fun h => h.elim) (fun h => by have h' : k = w6.heap.size := h; omega)⟩, HI6.out.fin hgc (HX.out.2.1.tr (hO9.mono fun k e => .inl e))⟩
   ·have hcn : (code != 0) = true := by simpa using hcode
    rw [if_pos hcode] at HP
    clear hcode
    have hltp := HI5.out.pb.lt
    have p9 := HI5.out.pb.cell 9
    have f9 := HI5.out.pb.frozen 9
    simp only [List.getElem?_cons_zero, List.getElem?_cons_succ] at p9
    go_upto_region 9 with fail
    have PB := (HI5.out.pb.set_ 9 (.bool false)).to (cs' := [.slice none 0 0, .int .i64 0, .int .i64 0, .int .i64 0, .int .i64 0, .int .i64 0, .int .i64 0, .int .i64 0, .slice none 0 0, .bool false, .bool true]) rfl
    have hOX : Only (fun k => k = w.heap.size + 1 ∨ k = w.heap.size + 1 + 1) w5 (w5.setCell ⟨w.heap.size + 1 + 1, 9, none⟩ (.bool false)) := (Only.refl _ _).tr (Only.set_ (by simp) _)
    have HX := jh (ja PB (ja hOX (HI5.out.rb.far (p := ⟨w.heap.size + 1 + 1, 9, none⟩) (by simp) (.bool false))))
    clear PB hOX p9 f9 m0 hlt0
    generalize w5.setCell ⟨w.heap.size + 1 + 1, 9, none⟩ (.bool false) = w8 at *
    go_wp2_with (first
     | (refine wpList_load_blk (cs := [.slice none 0 0, .int .i64 0, .int .i64 0, .int .i64 0, .int .i64 0, .int .i64 0, .int .i64 0, .int .i64 0, .slice none 0 0, .bool false, .bool true]) rfl rfl rfl HX.out.1 Tryz.underlying113 rfl (by kernel_rfl) ?_)
     | (refine wpList_store_blk (cs := [.slice none 0 0, .int .i64 0, .int .i64 0, .int .i64 0, .int .i64 0, .int .i64 0, .int .i64 0, .int .i64 0, .slice none 0 0, .bool false, .bool true]) rfl rfl rfl rfl rfl HX.out.2.2 (by kernel_rfl) rfl (by simp [Value.oneCell']) ?_; intro w9 hB9 hO9 hz9))
    refine bodyPost_blk (t := 113) (cs := [.slice none 0 0, .int .i64 0, .int .i64 0, .int .i64 0, .int .i64 0, .int .i64 0, .int .i64 0, .int .i64 0, .slice none 0 0, .bool false, .bool true]) rfl hB9 rfl Tryz.underlying113 rfl (by kernel_rfl) rfl ?_
    rw [HP.out]
    exact ⟨⟨none, 0, rfl, ⟨Nat.le_refl _, by decide⟩, Rep.Row.nil_⟩, HI5.out.fin hgc (HX.out.2.1.tr (hO9.mono fun k e => .inl e))⟩
end Go.Proofs.YtcmjgghkmdbphaaGreatDoor
