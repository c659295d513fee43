/- part.Decide. The reference's new ring, new state, new clock; the ring at a text. part's law: fresh. -/
import Derived.Test.YtcmjgghkmdbphaaGreatDoorD16
import Derived.Test.YtcmjgghkmdbphaaGreatDoorD09
set_option maxRecDepth 20000
set_option maxHeartbeats 25600000
namespace Go.Proofs.YtcmjgghkmdbphaaGreatDoor
open Go.RowKit
def decR (t : Tx) (yes : Bool) (st : Stamp) : Rec := ⟨5, 0, 0, yes, st, t, [], ⟨⟨#[]⟩, []⟩, ⟨0, 0, 0, 0⟩, []⟩
def decP (s : St) (c : Clk) (t : Tx) (yes : Bool) (st : Stamp) : Clk × List Rec × Bool :=
 if (getA t s.held).isNone then (c, [], true)
 else if yes then (if (mergeC c st).2 ≠ 0 then ((mergeC c st).1, [], false) else ((mergeC c st).1, [decR t true st], true))
 else (c, [decR t false zeroStamp], true)
def decV (t : Tx) (yes : Bool) (st : Stamp) : List Value := [.int .i64 t.node, .int .i64 t.life, .int .i64 t.num, .bool yes, .int .i64 st.wall, .int .i64 st.logic, .int .i64 st.node]
def zeroTx : Tx := ⟨0, 0, 0⟩
def DecOut (B : Nat) (l : List Rec) (d y : Bool) (e : Ending) (w' : World) : Prop :=
 ∃ rA rc, e = .returned (.agg (planV (.slice rA l.length rc) zeroTx 0 zeroStamp (.slice none 0 0) d y).toArray) ∧ (l.length ≤ rc ∧ rc ≤ 9223372036854775807) ∧ RecR.Row w' (fun k => B ≤ k) rA l
structure DeIn (w : World) (P : Nat → Prop) (g gc : Nat) (s : St) (c : Clk) (cs zs ps : List Value) (pb : Nat) (W : World) : Prop where
 st : StAt W P g s
 ck : CkAt W gc c
 mb : Blk W w.heap.size 117 cs
 rb : Blk W (w.heap.size + 1) 113 zs
 pb : Blk W (w.heap.size + 1 + 1) 113 ps
 only : Only (· = gc) w W
section
variable {w W W' : World} {P : Nat → Prop} {g gc : Nat} {s : St} {c c' : Clk} {cs zs ps : List Value} {pb : Nat}
theorem DeIn.ext (h : DeIn w P g gc s c cs zs ps pb W) (hb : Below W.heap.size W W') : DeIn w P g gc s c cs zs ps pb W' :=
 ⟨by obtain ⟨v, a1, a2⟩ := h.st; exact ⟨v, a1.ext hb, a2.same (js hb)⟩, Blk.ext h.ck hb, h.mb.ext hb, h.rb.ext hb, h.pb.ext hb, h.only.tr (jo hb)⟩
theorem DeIn.clk (h : DeIn w P g gc s c cs zs ps pb W) (hgc : gc < w.heap.size) (hg : g ≠ gc) (hP : ¬ P gc) (hc : CkAt W' gc c') (hO : Only (· = gc) W W') : DeIn w P g gc s c' cs zs ps pb W' :=
 ⟨by obtain ⟨v, a1, a2⟩ := h.st; exact ⟨v, a1.only hO hg, a2.same (Same.of_only hO fun k hk e => by have e' : k = gc := e; exact hP (e' ▸ hk))⟩, hc,
  h.mb.only hO (fun e => by have e' : w.heap.size = gc := e; omega), h.rb.only hO (fun e => by have e' : w.heap.size + 1 = gc := e; omega), h.pb.only hO (fun e => by have e' : w.heap.size + 1 + 1 = gc := e; omega), h.only.tr hO⟩
theorem DeIn.oth {b : Nat} (h : DeIn w (fun k => P k ∧ k < w.heap.size) g gc s c cs zs ps pb W) (hb : w.heap.size + 1 + 1 < b) (hg : g < w.heap.size) (hgc : gc < w.heap.size) (hO : Only (· = b) W W') : DeIn w (fun k => P k ∧ k < w.heap.size) g gc s c cs zs ps pb W' :=
 ⟨by obtain ⟨v, a1, a2⟩ := h.st; exact ⟨v, a1.only hO (fun e => by have e' : g = b := e; omega), a2.same (Same.of_only hO fun k hk e => by have e' : k = b := e; have := hk.2; omega)⟩, Blk.only h.ck hO (fun e => by have e' : gc = b := e; omega),
  h.mb.only hO (fun e => by have e' : w.heap.size = b := e; omega), h.rb.only hO (fun e => by have e' : w.heap.size + 1 = b := e; omega), h.pb.only hO (fun e => by have e' : w.heap.size + 1 + 1 = b := e; omega), h.only.trans hO (fun k hk e => by have e' : k = b := e; omega)⟩
theorem DeIn.fin (h : DeIn w P g gc s c cs zs ps pb W) (hgc : gc < w.heap.size) (hO : Only (fun k => k = w.heap.size + 1 ∨ k = w.heap.size + 1 + 1) W W') : CkAt W' gc c ∧ Only (· = gc) w W' :=
 ⟨Blk.only h.ck hO (fun e => by rcases (e : gc = _ ∨ gc = _) with e' | e' <;> omega), h.only.trans hO (fun k hk e => by rcases (e : k = _ ∨ k = _) with e' | e' <;> omega)⟩
end
theorem partDecide_any (g gc : Nat) (s : St) (c : Clk) (t : Tx) (yes : Bool) (st : Stamp) (P : Nat → Prop) (w : World) (h : StAt w P g s) (hF : Fit s) (hl : s.held.length ≤ 1000000) (hk : ∀ p ∈ s.held, p.2.tx = p.1)
 (hc : CkAt w gc c) (hco : c.Ok) (hg : g ≠ gc) (hP : ¬ P gc) (ht : t.fit) (hst : st.fit) :
 Calls Tryz.prog 60 #[ptrV g, .pointer (some ⟨gc, 0, none⟩), .agg (decV t yes st).toArray] w fun e w' => DecOut w.heap.size (decP s c t yes st).2.1 (decP s c t yes st).2.2 yes e w' ∧ CkAt w' gc (decP s c t yes st).1 ∧ Only (· = gc) w w' := by
 have hgc := hc.lt
 have hs := hF.self
 have hb1 := (((jb w.heap.size w).al (.cells (decV t yes st).toArray 117)).al (.cells planZ.toArray 113)).al (.cells (planV (.slice none 0 0) zeroTx 0 zeroStamp (.slice none 0 0) true yes).toArray 113)
 have B0 := ((Blk.new w 117 (decV t yes st)).alloc (.cells planZ.toArray 113)).alloc (.cells (planV (.slice none 0 0) zeroTx 0 zeroStamp (.slice none 0 0) true yes).toArray 113)
 have B1 := (Blk.new1 w (.cells (decV t yes st).toArray 117) 113 planZ).alloc (.cells (planV (.slice none 0 0) zeroTx 0 zeroStamp (.slice none 0 0) true yes).toArray 113)
 have B2 := Blk.new1 (w.alloc (.cells (decV t yes st).toArray 117)) (.cells planZ.toArray 113) 113 (planV (.slice none 0 0) zeroTx 0 zeroStamp (.slice none 0 0) true yes)
 rw [World.size_alloc] at B2
 have hgl := h.lt
 have HI := jh (show DeIn w (fun k => P k ∧ k < w.heap.size) g gc s c (decV t yes st) planZ (planV (.slice none 0 0) zeroTx 0 zeroStamp (.slice none 0 0) true yes) 0 _ from ⟨by obtain ⟨v, a1, a2⟩ := h; exact ⟨v, a1.ext hb1, a2.low.same (js hb1)⟩, Blk.ext hc hb1, B0, B1, B2, jo hb1⟩)
 have HH := jh (ja hF (ja hl (ja hk (ja hco (ja hg (ja hP (ja ht hst)))))))
 clear h hF hl hk hc hco hg hP ht hst B0 B1 B2 hb1
 unfold ptrV
 unfold decV planZ planV zeroTx zeroStamp at *
 go_enter Tryz.func60, Tryz.ntmps60
 go_upto_region 2 with fail
 generalize ((w.alloc (.cells #[.int .i64 t.node, .int .i64 t.life, .int .i64 t.num, .bool yes, .int .i64 st.wall, .int .i64 st.logic, .int .i64 st.node] 117)).alloc (.cells #[.slice none 0 0, .int .i64 0, .int .i64 0, .int .i64 0, .int .i64 0, .int .i64 0, .int .i64 0, .int .i64 0, .slice none 0 0, .bool false, .bool false] 113)).alloc (.cells #[.slice none 0 0, .int .i64 0, .int .i64 0, .int .i64 0, .int .i64 0, .int .i64 0, .int .i64 0, .int .i64 0, .slice none 0 0, .bool true, .bool yes] 113) = w1 at *
 have C1 := partHeld_any g s t _ w1 HI.out.st hs HH.out.1.held HH.out.2.1 HH.out.2.2.1
 unfold ptrV HeldOut at C1
 have m0 := HI.out.mb.cell
 have hlt0 := HI.out.mb.lt
 rcases hgt : getA t s.held with _ | h
 ·rw [hgt] at C1
  dsimp only at C1
  have HP := jh (show decP s c t yes st = (c, [], true) from by unfold decP; rw [hgt]; rfl)
  clear hgt
  unfold Held.zeros at C1
  go_wp2_with fail
  refine C1.mono ?_
  clear C1 m0 hlt0
  rintro e w2 ⟨rfl, hb2⟩
  have hb3 := hb2.al (.cells #[.int .i64 0, .int .i64 0, .int .i64 0, .string ⟨#[]⟩, .slice none 0 0, .int .i64 0, .int .i64 0, .int .i64 0, .slice none 0 0] 192)
  have HI3 := jh (HI.out.ext hb3)
  clear hb2 hb3 HI
  go_wp2_with (first
   | (refine wpList_load_blk (cs := [.slice none 0 0, .int .i64 0, .int .i64 0, .int .i64 0, .int .i64 0, .int .i64 0, .int .i64 0, .int .i64 0, .slice none 0 0, .bool true, .bool yes]) rfl rfl rfl HI3.out.pb Tryz.underlying113 rfl (by kernel_rfl) ?_)
   | (refine wpList_store_blk (cs := [.slice none 0 0, .int .i64 0, .int .i64 0, .int .i64 0, .int .i64 0, .int .i64 0, .int .i64 0, .int .i64 0, .slice none 0 0, .bool true, .bool yes]) rfl rfl rfl rfl rfl HI3.out.rb (by kernel_rfl) rfl (by simp [Value.oneCell']) ?_; intro w9 hB9 hO9 hz9))
  refine bodyPost_blk (t := 113) (cs := [.slice none 0 0, .int .i64 0, .int .i64 0, .int .i64 0, .int .i64 0, .int .i64 0, .int .i64 0, .int .i64 0, .slice none 0 0, .bool true, .bool yes]) rfl hB9 rfl Tryz.underlying113 rfl (by kernel_rfl) rfl ?_
  rw [HP.out]
  exact ⟨⟨none, 0, rfl, ⟨Nat.le_refl _, by decide⟩, Rep.Row.nil_⟩, HI3.out.fin hgc (hO9.mono fun k e => .inl e)⟩
 ·rw [hgt] at C1
  dsimp only at C1
  have HP := jh (show decP s c t yes st = if yes then (if (mergeC c st).2 ≠ 0 then ((mergeC c st).1, [], false) else ((mergeC c st).1, [decR t true st], true)) else (c, [decR t false zeroStamp], true) from by unfold decP; rw [hgt]; rfl)
  clear hgt
  unfold Held.cellsV at C1
  go_wp2_with fail
  refine C1.mono ?_
  clear C1 m0 hlt0
  rintro e w2 ⟨⟨pA, pc, fA, fc, rfl, _, _, _⟩, hb2⟩
  have hb3 := hb2.al (.cells #[.int .i64 h.tx.node, .int .i64 h.tx.life, .int .i64 h.tx.num, .string h.batch.key, .slice pA h.batch.puts.length pc, .int .i64 h.stamp.wall, .int .i64 h.stamp.logic, .int .i64 h.stamp.node, .slice fA h.firsts.length fc] 192)
  have HI3 := jh (HI.out.ext hb3)
  clear hb2 hb3 HI
  have m0 := HI3.out.mb.cell
  have hlt0 := HI3.out.mb.lt
  go_upto_region 5 with fail
  clear m0 hlt0
  generalize w2.alloc (.cells #[.int .i64 h.tx.node, .int .i64 h.tx.life, .int .i64 h.tx.num, .string h.batch.key, .slice pA h.batch.puts.length pc, .int .i64 h.stamp.wall, .int .i64 h.stamp.logic, .int .i64 h.stamp.node, .slice fA h.firsts.length fc] 192) = w3 at *
  have m0 := HI3.out.mb.cell
  have hlt0 := HI3.out.mb.lt
  go_upto_region 6 with (first | (refine wpList_store_new (cs := #[.int .i64 5, .int .i64 0, .int .i64 0, .bool yes, .int .i64 0, .int .i64 0, .int .i64 0, .int .i64 t.node, .int .i64 t.life, .int .i64 t.num, .slice none 0 0, .string ⟨#[]⟩, .slice none 0 0, .int .i64 0, .int .i64 0, .int .i64 0, .int .i64 0, .slice none 0 0]) rfl rfl rfl rfl rfl (by kernel_rfl) rfl (by simp [Value.oneCell']) ?_) | fail)
  have hbr := (jb _ w3).al (.cells #[.int .i64 5, .int .i64 0, .int .i64 0, .bool yes, .int .i64 0, .int .i64 0, .int .i64 0, .int .i64 t.node, .int .i64 t.life, .int .i64 t.num, .slice none 0 0, .string ⟨#[]⟩, .slice none 0 0, .int .i64 0, .int .i64 0, .int .i64 0, .int .i64 0, .slice none 0 0] 46)
  have HI4 := jh (HI3.out.ext hbr)
  have hz2 : w.heap.size + 1 + 1 < w3.heap.size := HI3.out.pb.lt
  have RB := jh (Blk.new w3 46 [.int .i64 5, .int .i64 0, .int .i64 0, .bool yes, .int .i64 0, .int .i64 0, .int .i64 0, .int .i64 t.node, .int .i64 t.life, .int .i64 t.num, .slice none 0 0, .string ⟨#[]⟩, .slice none 0 0, .int .i64 0, .int .i64 0, .int .i64 0, .int .i64 0, .slice none 0 0])
  clear hbr HI3 m0 hlt0
  generalize w3.alloc (.cells #[.int .i64 5, .int .i64 0, .int .i64 0, .bool yes, .int .i64 0, .int .i64 0, .int .i64 0, .int .i64 t.node, .int .i64 t.life, .int .i64 t.num, .slice none 0 0, .string ⟨#[]⟩, .slice none 0 0, .int .i64 0, .int .i64 0, .int .i64 0, .int .i64 0, .slice none 0 0] 46) = w4 at *
  have m0 := HI4.out.mb.cell
  have hlt0 := HI4.out.mb.lt
  cases yes
  ·simp only [Bool.false_eq_true, if_false] at HP
   have hltp := HI4.out.pb.lt
   have hltr := HI4.out.rb.lt
   have p0 := HI4.out.pb.cell 0
   have f0 := HI4.out.pb.frozen 0
   simp only [List.getElem?_cons_zero] at p0
   go_upto_region 12 with (first
    | (refine wpList_load_blk (cs := [.int .i64 5, .int .i64 0, .int .i64 0, .bool false, .int .i64 0, .int .i64 0, .int .i64 0, .int .i64 t.node, .int .i64 t.life, .int .i64 t.num, .slice none 0 0, .string ⟨#[]⟩, .slice none 0 0, .int .i64 0, .int .i64 0, .int .i64 0, .int .i64 0, .slice none 0 0]) rfl rfl rfl RB.out Tryz.underlying46 rfl (by kernel_rfl) ?_)
    | fail)
   have hzX : (w4.setCell ⟨w.heap.size + 1 + 1, 0, none⟩ (.slice (some ⟨w4.heap.size, 0, none⟩) 1 1)).heap.size = w4.heap.size := by simp
   have PB := ((HI4.out.pb.set_ 0 (.slice (some ⟨w4.heap.size, 0, none⟩) 1 1)).alloc (.cells #[.int .i64 5, .int .i64 0, .int .i64 0, .bool false, .int .i64 0, .int .i64 0, .int .i64 0, .int .i64 t.node, .int .i64 t.life, .int .i64 t.num, .slice none 0 0, .string ⟨#[]⟩, .slice none 0 0, .int .i64 0, .int .i64 0, .int .i64 0, .int .i64 0, .slice none 0 0] 46)).to (cs' := [(.slice (some ⟨w4.heap.size, 0, none⟩) 1 1), .int .i64 0, .int .i64 0, .int .i64 0, .int .i64 0, .int .i64 0, .int .i64 0, .int .i64 0, .slice none 0 0, .bool true, .bool false]) rfl
   have hOX : Only (fun k => k = w.heap.size + 1 ∨ k = w.heap.size + 1 + 1) w4 ((w4.setCell ⟨w.heap.size + 1 + 1, 0, none⟩ (.slice (some ⟨w4.heap.size, 0, none⟩) 1 1)).alloc (.cells #[.int .i64 5, .int .i64 0, .int .i64 0, .bool false, .int .i64 0, .int .i64 0, .int .i64 0, .int .i64 t.node, .int .i64 t.life, .int .i64 t.num, .slice none 0 0, .string ⟨#[]⟩, .slice none 0 0, .int .i64 0, .int .i64 0, .int .i64 0, .int .i64 0, .slice none 0 0] 46)) := ((Only.refl _ _).tr (Only.set_ (by simp) _)).tr (Only.alloc _)
   have hrX : RecR.Row ((w4.setCell ⟨w.heap.size + 1 + 1, 0, none⟩ (.slice (some ⟨w4.heap.size, 0, none⟩) 1 1)).alloc (.cells #[.int .i64 5, .int .i64 0, .int .i64 0, .bool false, .int .i64 0, .int .i64 0, .int .i64 0, .int .i64 t.node, .int .i64 t.life, .int .i64 t.num, .slice none 0 0, .string ⟨#[]⟩, .slice none 0 0, .int .i64 0, .int .i64 0, .int .i64 0, .int .i64 0, .slice none 0 0] 46)) (fun k => False ∨ k = (w4.setCell ⟨w.heap.size + 1 + 1, 0, none⟩ (.slice (some ⟨w4.heap.size, 0, none⟩) 1 1)).heap.size) (some ⟨(w4.setCell ⟨w.heap.size + 1 + 1, 0, none⟩ (.slice (some ⟨w4.heap.size, 0, none⟩) 1 1)).heap.size, 0, none⟩) [decR t false zeroStamp] := Rep.Row.new1 (R := RecR) (w := (w4.setCell ⟨w.heap.size + 1 + 1, 0, none⟩ (.slice (some ⟨w4.heap.size, 0, none⟩) 1 1))) (t := 46) (a := decR t false zeroStamp) (P := fun _ => False) (cs := (decR t false zeroStamp).cells none 0 none 0 none 0)
    (rec_rep.2 ⟨none, 0, none, 0, none, 0, rfl, ⟨i64_small 5 (by omega), i64_small 0 (by omega), i64_small 0 (by omega), ⟨i64_small 0 (by omega), i64_small 0 (by omega), i64_small 0 (by omega)⟩, HH.out.2.2.2.2.2.2.1, ⟨Nat.le_refl _, by decide, Rep.Row.nil_⟩, (by show (0 : Nat) ≤ _; omega), ⟨Nat.le_refl _, by decide, Rep.Row.nil_⟩, ⟨i64_small 0 (by omega), i64_small 0 (by omega), i64_small 0 (by omega), i64_small 0 (by omega)⟩, ⟨Nat.le_refl _, by decide, Rep.Row.nil_⟩⟩⟩)
   rw [hzX] at hrX
   have HX := jh (ja PB (ja hOX (ja ((HI4.out.rb.far (p := ⟨w.heap.size + 1 + 1, 0, none⟩) (by simp) (.slice (some ⟨w4.heap.size, 0, none⟩) 1 1)).alloc (.cells #[.int .i64 5, .int .i64 0, .int .i64 0, .bool false, .int .i64 0, .int .i64 0, .int .i64 0, .int .i64 t.node, .int .i64 t.life, .int .i64 t.num, .slice none 0 0, .string ⟨#[]⟩, .slice none 0 0, .int .i64 0, .int .i64 0, .int .i64 0, .int .i64 0, .slice none 0 0] 46)) hrX)))
   clear PB hOX hrX hzX p0 f0 m0 hlt0
   generalize (w4.setCell ⟨w.heap.size + 1 + 1, 0, none⟩ (.slice (some ⟨w4.heap.size, 0, none⟩) 1 1)).alloc (.cells #[.int .i64 5, .int .i64 0, .int .i64 0, .bool false, .int .i64 0, .int .i64 0, .int .i64 0, .int .i64 t.node, .int .i64 t.life, .int .i64 t.num, .slice none 0 0, .string ⟨#[]⟩, .slice none 0 0, .int .i64 0, .int .i64 0, .int .i64 0, .int .i64 0, .slice none 0 0] 46) = w8 at *
   go_wp2_with (first
    | (refine wpList_load_blk (cs := [(.slice (some ⟨w4.heap.size, 0, none⟩) 1 1), .int .i64 0, .int .i64 0, .int .i64 0, .int .i64 0, .int .i64 0, .int .i64 0, .int .i64 0, .slice none 0 0, .bool true, .bool false]) rfl rfl rfl HX.out.1 Tryz.underlying113 rfl (by kernel_rfl) ?_)
    | (refine wpList_store_blk (cs := [(.slice (some ⟨w4.heap.size, 0, none⟩) 1 1), .int .i64 0, .int .i64 0, .int .i64 0, .int .i64 0, .int .i64 0, .int .i64 0, .int .i64 0, .slice none 0 0, .bool true, .bool false]) rfl rfl rfl rfl rfl HX.out.2.2.1 (by kernel_rfl) rfl (by simp [Value.oneCell']) ?_; intro w9 hB9 hO9 hz9))
   refine bodyPost_blk (t := 113) (cs := [(.slice (some ⟨w4.heap.size, 0, none⟩) 1 1), .int .i64 0, .int .i64 0, .int .i64 0, .int .i64 0, .int .i64 0, .int .i64 0, .int .i64 0, .slice none 0 0, .bool true, .bool false]) rfl hB9 rfl Tryz.underlying113 rfl (by kernel_rfl) rfl ?_
   rw [HP.out]
   refine ⟨⟨some ⟨w4.heap.size, 0, none⟩, 1, rfl, ⟨Nat.le_refl 1, by decide⟩, (Rep.Row.only HX.out.2.2.2 hO9 (fun k hk e => by have e1 : k = w.heap.size + 1 := e; rcases hk with hk | hk <;> omega)).mono fun k hk _ => hk.elim (fun h => h.elim) (fun h => by have h' : k = w4.heap.size := h; omega)⟩, HI4.out.fin hgc (HX.out.2.1.tr (hO9.mono fun k e => .inl e))⟩
  ·simp only [if_true] at HP
   have CM := clkMerge_any gc c st w4 HI4.out.ck HH.out.2.2.2.1
   go_wp2_with fail
   refine CM.mono ?_
   clear CM
   rintro e w5 ⟨rfl, hc5, hO5⟩
   have HI5 := jh (HI4.out.clk hgc HH.out.2.2.2.2.1 (fun h => HH.out.2.2.2.2.2.1 h.1) hc5 hO5)
   have RB5 := jh (RB.out.only hO5 (fun e => by have e' : w3.heap.size = gc := e; omega))
   clear hc5 hO5 HI4 RB m0 hlt0
   have m0 := HI5.out.mb.cell
   have hlt0 := HI5.out.mb.lt
   generalize mergeC c st = mc at *
   obtain ⟨c1, code⟩ := mc
   dsimp only at *
   by_cases hcode : code = 0
   ·subst hcode
    rw [if_neg (by simp)] at HP
    have r4 := RB5.out.cell 4
    have r5 := RB5.out.cell 5
    have r6 := RB5.out.cell 6
    simp only [List.getElem?_cons_zero, List.getElem?_cons_succ] at r4 r5 r6
    have rf := RB5.out.frozen
    have hltr := RB5.out.lt
    go_upto_region 11 with fail
    have hO6 : Only (· = w3.heap.size) w5 (((w5.setCell ⟨w3.heap.size, 4, none⟩ (.int .i64 st.wall)).setCell ⟨w3.heap.size, 5, none⟩ (.int .i64 st.logic)).setCell ⟨w3.heap.size, 6, none⟩ (.int .i64 st.node)) := (((Only.refl _ _).tr (Only.set_ (by simp) _)).tr (Only.set_ (by simp) _)).tr (Only.set_ (by simp) _)
    have HI6 := jh (HI5.out.oth (by omega) hgl hgc hO6)
    have RB6 := jh ((((RB5.out.set_ 4 (.int .i64 st.wall)).set_ 5 (.int .i64 st.logic)).set_ 6 (.int .i64 st.node)).to (cs' := [.int .i64 5, .int .i64 0, .int .i64 0, .bool true, .int .i64 st.wall, .int .i64 st.logic, .int .i64 st.node, .int .i64 t.node, .int .i64 t.life, .int .i64 t.num, .slice none 0 0, .string ⟨#[]⟩, .slice none 0 0, .int .i64 0, .int .i64 0, .int .i64 0, .int .i64 0, .slice none 0 0]) rfl)
    clear hO6 r4 r5 r6 rf hltr HI5 RB5 m0 hlt0
    generalize ((w5.setCell ⟨w3.heap.size, 4, none⟩ (.int .i64 st.wall)).setCell ⟨w3.heap.size, 5, none⟩ (.int .i64 st.logic)).setCell ⟨w3.heap.size, 6, none⟩ (.int .i64 st.node) = w6 at *
    have m0 := HI6.out.mb.cell
    have hlt0 := HI6.out.mb.lt
    have hltp := HI6.out.pb.lt
    have hltr := HI6.out.rb.lt
    have p0 := HI6.out.pb.cell 0
    have f0 := HI6.out.pb.frozen 0
    simp only [List.getElem?_cons_zero] at p0
    go_upto_region 12 with (first
     | (refine wpList_load_blk (cs := [.int .i64 5, .int .i64 0, .int .i64 0, .bool true, .int .i64 st.wall, .int .i64 st.logic, .int .i64 st.node, .int .i64 t.node, .int .i64 t.life, .int .i64 t.num, .slice none 0 0, .string ⟨#[]⟩, .slice none 0 0, .int .i64 0, .int .i64 0, .int .i64 0, .int .i64 0, .slice none 0 0]) rfl rfl rfl RB6.out Tryz.underlying46 rfl (by kernel_rfl) ?_)
     | fail)
    have hzX : (w6.setCell ⟨w.heap.size + 1 + 1, 0, none⟩ (.slice (some ⟨w6.heap.size, 0, none⟩) 1 1)).heap.size = w6.heap.size := by simp
    have PB := ((HI6.out.pb.set_ 0 (.slice (some ⟨w6.heap.size, 0, none⟩) 1 1)).alloc (.cells #[.int .i64 5, .int .i64 0, .int .i64 0, .bool true, .int .i64 st.wall, .int .i64 st.logic, .int .i64 st.node, .int .i64 t.node, .int .i64 t.life, .int .i64 t.num, .slice none 0 0, .string ⟨#[]⟩, .slice none 0 0, .int .i64 0, .int .i64 0, .int .i64 0, .int .i64 0, .slice none 0 0] 46)).to (cs' := [(.slice (some ⟨w6.heap.size, 0, none⟩) 1 1), .int .i64 0, .int .i64 0, .int .i64 0, .int .i64 0, .int .i64 0, .int .i64 0, .int .i64 0, .slice none 0 0, .bool true, .bool true]) rfl
    have hOX : Only (fun k => k = w.heap.size + 1 ∨ k = w.heap.size + 1 + 1) w6 ((w6.setCell ⟨w.heap.size + 1 + 1, 0, none⟩ (.slice (some ⟨w6.heap.size, 0, none⟩) 1 1)).alloc (.cells #[.int .i64 5, .int .i64 0, .int .i64 0, .bool true, .int .i64 st.wall, .int .i64 st.logic, .int .i64 st.node, .int .i64 t.node, .int .i64 t.life, .int .i64 t.num, .slice none 0 0, .string ⟨#[]⟩, .slice none 0 0, .int .i64 0, .int .i64 0, .int .i64 0, .int .i64 0, .slice none 0 0] 46)) := ((Only.refl _ _).tr (Only.set_ (by simp) _)).tr (Only.alloc _)
    have hrX : RecR.Row ((w6.setCell ⟨w.heap.size + 1 + 1, 0, none⟩ (.slice (some ⟨w6.heap.size, 0, none⟩) 1 1)).alloc (.cells #[.int .i64 5, .int .i64 0, .int .i64 0, .bool true, .int .i64 st.wall, .int .i64 st.logic, .int .i64 st.node, .int .i64 t.node, .int .i64 t.life, .int .i64 t.num, .slice none 0 0, .string ⟨#[]⟩, .slice none 0 0, .int .i64 0, .int .i64 0, .int .i64 0, .int .i64 0, .slice none 0 0] 46)) (fun k => False ∨ k = (w6.setCell ⟨w.heap.size + 1 + 1, 0, none⟩ (.slice (some ⟨w6.heap.size, 0, none⟩) 1 1)).heap.size) (some ⟨(w6.setCell ⟨w.heap.size + 1 + 1, 0, none⟩ (.slice (some ⟨w6.heap.size, 0, none⟩) 1 1)).heap.size, 0, none⟩) [decR t true st] := Rep.Row.new1 (R := RecR) (w := (w6.setCell ⟨w.heap.size + 1 + 1, 0, none⟩ (.slice (some ⟨w6.heap.size, 0, none⟩) 1 1))) (t := 46) (a := decR t true st) (P := fun _ => False) (cs := (decR t true st).cells none 0 none 0 none 0)
     (rec_rep.2 ⟨none, 0, none, 0, none, 0, rfl, ⟨i64_small 5 (by omega), i64_small 0 (by omega), i64_small 0 (by omega), HH.out.2.2.2.2.2.2.2, HH.out.2.2.2.2.2.2.1, ⟨Nat.le_refl _, by decide, Rep.Row.nil_⟩, (by show (0 : Nat) ≤ _; omega), ⟨Nat.le_refl _, by decide, Rep.Row.nil_⟩, ⟨i64_small 0 (by omega), i64_small 0 (by omega), i64_small 0 (by omega), i64_small 0 (by omega)⟩, ⟨Nat.le_refl _, by decide, Rep.Row.nil_⟩⟩⟩)
    rw [hzX] at hrX
    have HX := jh (ja PB (ja hOX (ja ((HI6.out.rb.far (p := ⟨w.heap.size + 1 + 1, 0, none⟩) (by simp) (.slice (some ⟨w6.heap.size, 0, none⟩) 1 1)).alloc (.cells #[.int .i64 5, .int .i64 0, .int .i64 0, .bool true, .int .i64 st.wall, .int .i64 st.logic, .int .i64 st.node, .int .i64 t.node, .int .i64 t.life, .int .i64 t.num, .slice none 0 0, .string ⟨#[]⟩, .slice none 0 0, .int .i64 0, .int .i64 0, .int .i64 0, .int .i64 0, .slice none 0 0] 46)) hrX)))
    clear PB hOX hrX hzX p0 f0 m0 hlt0
    generalize (w6.setCell ⟨w.heap.size + 1 + 1, 0, none⟩ (.slice (some ⟨w6.heap.size, 0, none⟩) 1 1)).alloc (.cells #[.int .i64 5, .int .i64 0, .int .i64 0, .bool true, .int .i64 st.wall, .int .i64 st.logic, .int .i64 st.node, .int .i64 t.node, .int .i64 t.life, .int .i64 t.num, .slice none 0 0, .string ⟨#[]⟩, .slice none 0 0, .int .i64 0, .int .i64 0, .int .i64 0, .int .i64 0, .slice none 0 0] 46) = w8 at *
    go_wp2_with (first
     | (refine wpList_load_blk (cs := [(.slice (some ⟨w6.heap.size, 0, none⟩) 1 1), .int .i64 0, .int .i64 0, .int .i64 0, .int .i64 0, .int .i64 0, .int .i64 0, .int .i64 0, .slice none 0 0, .bool true, .bool true]) rfl rfl rfl HX.out.1 Tryz.underlying113 rfl (by kernel_rfl) ?_)
     | (refine wpList_store_blk (cs := [(.slice (some ⟨w6.heap.size, 0, none⟩) 1 1), .int .i64 0, .int .i64 0, .int .i64 0, .int .i64 0, .int .i64 0, .int .i64 0, .int .i64 0, .slice none 0 0, .bool true, .bool true]) rfl rfl rfl rfl rfl HX.out.2.2.1 (by kernel_rfl) rfl (by simp [Value.oneCell']) ?_; intro w9 hB9 hO9 hz9))
    refine bodyPost_blk (t := 113) (cs := [(.slice (some ⟨w6.heap.size, 0, none⟩) 1 1), .int .i64 0, .int .i64 0, .int .i64 0, .int .i64 0, .int .i64 0, .int .i64 0, .int .i64 0, .slice none 0 0, .bool true, .bool true]) rfl hB9 rfl Tryz.underlying113 rfl (by kernel_rfl) rfl ?_
    rw [HP.out]
    refine ⟨⟨some ⟨w6.heap.size, 0, none⟩, 1, rfl, ⟨Nat.le_refl 1, by decide⟩, (Rep.Row.only HX.out.2.2.2 hO9 (fun k hk e => by have e1 : k = w.heap.size + 1 := e; rcases hk with hk | hk <;> omega)).mono fun k hk _ => hk.elim (fun h => h.elim) (fun h => by have h' : k = w6.heap.size := h; omega)⟩, HI6.out.fin hgc (HX.out.2.1.tr (hO9.mono fun k e => .inl e))⟩
   ·have hcn : (code != 0) = true := by simpa using hcode
    rw [if_pos hcode] at HP
    clear hcode
    have hltp := HI5.out.pb.lt
    have p9 := HI5.out.pb.cell 9
    have f9 := HI5.out.pb.frozen 9
    simp only [List.getElem?_cons_zero, List.getElem?_cons_succ] at p9
    go_upto_region 9 with fail
    have PB := (HI5.out.pb.set_ 9 (.bool false)).to (cs' := [.slice none 0 0, .int .i64 0, .int .i64 0, .int .i64 0, .int .i64 0, .int .i64 0, .int .i64 0, .int .i64 0, .slice none 0 0, .bool false, .bool true]) rfl
    have hOX : Only (fun k => k = w.heap.size + 1 ∨ k = w.heap.size + 1 + 1) w5 (w5.setCell ⟨w.heap.size + 1 + 1, 9, none⟩ (.bool false)) := (Only.refl _ _).tr (Only.set_ (by simp) _)
    have HX := jh (ja PB (ja hOX (HI5.out.rb.far (p := ⟨w.heap.size + 1 + 1, 9, none⟩) (by simp) (.bool false))))
    clear PB hOX p9 f9 m0 hlt0
    generalize w5.setCell ⟨w.heap.size + 1 + 1, 9, none⟩ (.bool false) = w8 at *
    go_wp2_with (first
     | (refine wpList_load_blk (cs := [.slice none 0 0, .int .i64 0, .int .i64 0, .int .i64 0, .int .i64 0, .int .i64 0, .int .i64 0, .int .i64 0, .slice none 0 0, .bool false, .bool true]) rfl rfl rfl HX.out.1 Tryz.underlying113 rfl (by kernel_rfl) ?_)
     | (refine wpList_store_blk (cs := [.slice none 0 0, .int .i64 0, .int .i64 0, .int .i64 0, .int .i64 0, .int .i64 0, .int .i64 0, .int .i64 0, .slice none 0 0, .bool false, .bool true]) rfl rfl rfl rfl rfl HX.out.2.2 (by kernel_rfl) rfl (by simp [Value.oneCell']) ?_; intro w9 hB9 hO9 hz9))
    refine bodyPost_blk (t := 113) (cs := [.slice none 0 0, .int .i64 0, .int .i64 0, .int .i64 0, .int .i64 0, .int .i64 0, .int .i64 0, .int .i64 0, .slice none 0 0, .bool false, .bool true]) rfl hB9 rfl Tryz.underlying113 rfl (by kernel_rfl) rfl ?_
    rw [HP.out]
    exact ⟨⟨none, 0, rfl, ⟨Nat.le_refl _, by decide⟩, Rep.Row.nil_⟩, HI5.out.fin hgc (HX.out.2.1.tr (hO9.mono fun k e => .inl e))⟩
end Go.Proofs.YtcmjgghkmdbphaaGreatDoor
namespace Go.Proofs.YtcmjgghkmdbphaaGreatDoor
open Go.RowKit
theorem rNewRing_any (N : Nat) (w : World) (hN : 1 ≤ N ∧ N ≤ 5) : Calls Tryz.prog 85 #[.int .i64 N] w fun e w' => GotRing w.heap.size N e w' ∧ Below w.heap.size w w' := by
 have HE := jh (show newR N = ((List.range N).map (newRange N), 0) from by unfold newR; rw [if_neg (by omega)]; rfl)
 have h1 : decide ((N : Int) < 1) = false := jd (by omega)
 have h2 : decide ((5 : Int) < (N : Int)) = false := jd (by omega)
 obtain ⟨N1, N2⟩ := hN
 go_enter Tryz.func85, Tryz.ntmps85
 go_wp2_with fail
 go_loopw [4, 5] (fun out i wr => ∃ k : Nat, k ≤ N ∧ i = .int .i64 (k + 1 : Nat) ∧ RangeR.Own wr w.heap.size 27 (fun _ => True) out ((List.range k).map (newRange N)) ∧ Below w.heap.size w wr) (fun _ i _ => N + 1 - (intOf i).toNat)
 case atStart => exact ⟨0, Nat.zero_le _, rfl, by simpa using Rep.Own.nil_, jb _ _⟩
 case round =>
  obtain ⟨k, hk, rfl, hout, hbl⟩ := hrel
  by_cases hlt : k < N
  ·have hlt' : ((k + 1 : Nat) : Int) ≤ (N : Int) := by omega
   have bd1 := begin_bd N k (by omega) (by omega)
   have bd2 := begin_bd N (k + 1) (by omega) (by omega)
   have hlen : ((List.range k).map (newRange (N : Int))).length = k := by simp
   obtain ⟨Ao, co, hu, _⟩ := hout.form
   rw [hlen] at hu
   subst hu
   have hrx : RangeR.rep wr (fun _ => False) [.int .i64 (beginR N k), .int .i64 (beginR N (k + 1) - 1), .int .i64 ((k : Int) + 1), .int .i64 1] (newRange N k) :=
    range_rep.2 ⟨rfl, show i64 (beginR N k) from ⟨by omega, by omega⟩, show i64 (beginR N (k + 1) - 1) from ⟨by omega, by omega⟩, show i64 ((k : Int) + 1) from ⟨by omega, by omega⟩, show i64 1 from ⟨by omega, by omega⟩⟩
   obtain ⟨i0, e1, e2, e3, e4⟩ := info_parts range_info
   have hwz := hbl.size
   have HBL := jh hbl
   obtain ⟨bd11, bd12⟩ := bd1
   obtain ⟨bd21, bd22⟩ := bd2
   have hwp : wrap64 (((k : Int) + 1) * 4294967296 / (N : Int) - 1) = ((k : Int) + 1) * 4294967296 / (N : Int) - 1 := wrap_in _ (by have e1 : beginR N (k + 1) = ((k : Int) + 1) * 4294967296 / (N : Int) := rfl; omega)
   clear hbl
   go_upto_region 7 with fail
   refine wp_region_mix (.seg [0, 1, 2, 3, 4, 5, 6, 7, 8, 9, 10, 11] 12 (.seg [] 13 (.seg [] 14 (.leaf [15])))) (fun w' => ∃ d : Wd (OnB w.heap.size wr), w' = d.w) (by kernel_rfl) (by kernel_rfl) (fun _ _ d _ _ h => by cases d <;> exact h) (ClsW.mk (jb _ _).drew) ?_
   unfold wpMix; simp only [pick, j1, j2, j3, j4]
   (repeat (show wpQuiet _ _ _ _ (_ :: _) _; go_big_quiet_step (fail))); refine qn ?_
   go_wp2_with fail
   (refine segw (D := OnB (w.heap.size) wr) ((jb _ _).drew) ?_; unfold wpMix; simp only [pick, j1, j2, j3, j4]; (repeat (show wpQuiet _ _ _ _ (_ :: _) _; go_big_quiet_step (fail))); refine qn ?_)
   go_wp2_with fail
   have hbn : Below wr.heap.size wr ((wr.alloc (.cells #[.int .i64 ((k : Int) * 4294967296 / (N : Int)), .int .i64 (((k : Int) + 1) * 4294967296 / (N : Int) - 1), .int .i64 ((k + 1 : Nat) : Int), .int .i64 1] 27)).drew) := by repeat (with_reducible first | assumption | exact jb _ _ | refine Below.al ?_ _ | refine Below.drew ?_ | apply Below.st1)
   have hrow := (Rep.Row.new1 (R := RangeR) (w := wr) (t := 27) (a := newRange N k) (P := fun _ => False) (cs := [.int .i64 (beginR N k), .int .i64 (beginR N (k + 1) - 1), .int .i64 ((k : Int) + 1), .int .i64 1]) hrx).ext ((jb _ _).drew)
   (refine segw (D := OnB (w.heap.size) wr) (hbn.mono hwz) ?_; unfold wpMix; simp only [pick, j1, j2, j3, j4]; (repeat (show wpQuiet _ _ _ _ (_ :: _) _; go_big_quiet_step (fail))); refine qn ?_)
   refine wpList_append_rep (R := RangeR) _ rfl (.tmp 17) (.tmp 30) _ rfl w.heap.size 27 i0 _ 32 Tryz.underlying58 e1 e2 e3 e4 rfl _ ((List.range k).map (newRange (N : Int))) (fun _ => True) rfl (hout.ext hbn) _ _ 1 [newRange N k] rfl hrow (fun g hg _ => ⟨trivial, fun e => by have h1 := (hout.lt g e.symm).2; rcases hg with hg | hg; exact hg; omega⟩) (by unfold maxLen; simp; omega) (by simp; omega) (Nat.le_trans hwz hbn.size) ?_
   intro v1 w6 ho1 hg1 hat1 hn1 hb6
   have hb6' : Below w.heap.size wr w6 := (hbn.mono hwz).trans hb6
   go_simp
   (refine segw (D := OnB (w.heap.size) wr) (hb6') ?_; unfold wpMix; simp only [pick, j1, j2, j3, j4]; (repeat (show wpQuiet _ _ _ _ (_ :: _) _; go_big_quiet_step (fail))); refine qn ?_)
   go_wp2_with fail
   go_round
   case rel =>
    refine ⟨k + 1, by omega, by go_num, ?_, HBL.out.trans hb6'⟩
    rw [List.range_succ, List.map_append]
    exact ho1
   case measure => simp [intOf]; omega
  ·have hkn : k = N := by omega
   subst hkn
   have hlt' : decide (((k + 1 : Nat) : Int) ≤ (k : Int)) = false := jd (by omega)
   go_wp2_with fail
   go_ret2
   refine ⟨⟨_, by rw [HE.out]; rfl, ?_⟩, hbl⟩
   rw [HE.out]
   exact hout.plain range_plain
theorem rHash_any (s : Str) (w : World) (hs : s.size ≤ 9223372036854775807) :
 Calls Tryz.prog 117 #[.string s] w fun e w' => e = .returned (.int .i64 (hashS s)) ∧ w = w' := by
 go_enter Tryz.func117, Tryz.ntmps117
 go_wp2
 go_loop [3, 4] (fun h i => ∃ k : Nat, k ≤ s.size ∧ i = .int .i64 k ∧ h = .int .u32 (hashL (s.data.toList.take k))) (fun _ i => s.size - (intOf i).toNat)
 case atStart => exact ⟨0, Nat.zero_le _, rfl, rfl⟩
 case round =>
  obtain ⟨k, hk, rfl, rfl⟩ := hrel
  by_cases hlt : k < s.size
  ·have hsn := hash_snoc (s.data.toList.take k) s[k]
   have hts := take_snocB s k hlt
   rw [← hts] at hsn
   have HS := jh hsn
   clear hsn hts
   go_wp2
   all_goals
    go_round
    case rel => exact ⟨k + 1, by omega, by go_num, by rw [HS.out, show ((s[k].toNat : Int)) % 4294967296 = s[k].toNat from by have := s[k].toNat_lt; omega]⟩
    case measure => simp [intOf]; omega
  ·have hb := hash_bd s.data.toList
   have h0 := hb.1
   have h1 := hb.2
   have ht : s.data.toList.take k = s.data.toList := List.take_of_length_le (by simp; omega)
   rw [ht]
   clear ht hb
   have HG := jh (show hashS s = hashL s.data.toList from rfl)
   generalize hashL s.data.toList = hh at *
   go_wp2
   go_ret
   exact ⟨by rw [HG.out]; rfl, rfl⟩
theorem rOf_any (A : Option Addr) (c : Nat) (l : List Range) (n : Str) (P : Nat → Prop) (w : World) (hr : RangeR.Row w P A l) (hs : soundR l = true) (hn : n.size ≤ 9223372036854775807) :
 Calls Tryz.prog 80 #[.slice A l.length c, .string n] w fun e w' => e = .returned (Found (ofR l n).1 (ofR l n).2) ∧ Below w.heap.size w w' := by
 have hb := hash_bd n.data.toList
 have hb0 := (jb w.heap.size w).al (.cells #[.int .i64 0, .int .i64 0, .int .i64 0, .int .i64 0] 27)
 have B0 := Blk.new w 27 [.int .i64 0, .int .i64 0, .int .i64 0, .int .i64 0]
 have C1 := rHash_any n (w.alloc (.cells #[.int .i64 0, .int .i64 0, .int .i64 0, .int .i64 0] 27)) hn
 have C2 := rfind_any A c l (hashS n) P (w.alloc (.cells #[.int .i64 0, .int .i64 0, .int .i64 0, .int .i64 0] 27)) (hr.ext hb0) hs hb.1 hb.2
 have H0 := jh (ja hb0 B0)
 clear hr hs hb hb0 B0
 unfold Found at C2
 unfold ofR
 generalize findR l (hashS n) = q at *
 obtain ⟨x, ok⟩ := q
 dsimp only at *
 go_enter Tryz.func80, Tryz.ntmps80
 go_wp2_with fail
 refine C1.mono ?_
 clear C1
 rintro e w' ⟨rfl, rfl⟩
 go_wp2_with fail
 refine C2.mono ?_
 clear C2
 rintro e w1 ⟨rfl, hb1⟩
 have B1 := H0.out.2.ext hb1
 have hw1 := H0.out.1.tr hb1
 have hlt := B1.lt
 have f0 := B1.frozen
 have b0 := B1.cell 0
 have b1 := B1.cell 1
 have b2 := B1.cell 2
 have b3 := B1.cell 3
 simp only [List.getElem?_cons_zero, List.getElem?_cons_succ] at b0 b1 b2 b3
 have HB := jh (ja B1 hw1)
 clear B1 hw1 hb1
 go_wp2_with fail
 exact bodyPost_ret (results_blk_tmp rfl _ ((((HB.out.1.set_ 0 (.int .i64 x.first)).set_ 1 (.int .i64 x.last)).set_ 2 (.int .i64 x.owner)).set_ 3 (.int .i64 x.epoch)) rfl Tryz.underlying27 rfl (by kernel_rfl)) rfl ⟨rfl, (((HB.out.2.st (Nat.le_refl _) _).st (Nat.le_refl _) _).st (Nat.le_refl _) _).st (Nat.le_refl _) _⟩
def GotPtr (B : Nat) (e : Ending) : Prop := ∃ g, e = .returned (.tuple #[.pointer (some ⟨g, 0, none⟩), .int .i64 0]) ∧ B ≤ g
theorem rNew_any (self : Int) (N : Nat) (w : World) (hN : 1 ≤ N ∧ N ≤ 5) (hs : 1 ≤ self ∧ self ≤ N) : Calls Tryz.prog 18 #[.int .i64 self, .int .i64 N] w fun e w' => GotPtr w.heap.size e ∧ Below w.heap.size w w' := by
 have C := rNewRing_any N w hN
 have HE := jh (show newR N = ((List.range N).map (newRange N), 0) from by unfold newR; rw [if_neg (by omega)]; rfl)
 unfold GotRing at C
 rw [HE.out] at C
 dsimp only at C
 obtain ⟨s1, s2⟩ := hs
 have h1 : decide (self < 1) = false := jd (by omega)
 have h2 : decide ((N : Int) < self) = false := jd (by omega)
 go_enter Tryz.func18, Tryz.ntmps18
 go_wp2_with fail
 refine C.mono ?_
 clear C
 rintro e w1 ⟨⟨v, rfl, ho⟩, hb⟩
 obtain ⟨A, c, rfl, _⟩ := ho.form
 clear ho
 have HB := jh hb
 have hz := hb.size
 clear hb
 go_wp2_with fail
 go_ret2
 exact ⟨⟨_, rfl, hz⟩, by have h := HB.out; repeat (with_reducible first | assumption | exact jb _ _ | refine Below.al ?_ _ | refine Below.drew ?_ | apply Below.st1)⟩
theorem rNewClock_any (w : World) : Calls Tryz.prog 76 #[.int .i64 1, .int .i64 1] w fun e w' => GotPtr w.heap.size e ∧ Below w.heap.size w w' := by
 go_enter Tryz.func76, Tryz.ntmps76
 go_wp2
 go_ret2
 exact ⟨⟨_, rfl, Nat.le_refl _⟩, (jb _ _).al _⟩
end Go.Proofs.YtcmjgghkmdbphaaGreatDoor
namespace Go.Proofs.YtcmjgghkmdbphaaGreatDoor
open Go.RowKit
def ck1 : Clk := ⟨0, ⟨1, 0, 1⟩⟩
theorem ck1_ok : ck1.Ok := ⟨by decide, by decide, by decide, by decide⟩
structure FrAt (B : Nat) (s0 : St) (wb g gc : Nat) (W : World) : Prop where
 hwb : B ≤ wb
 hg : B ≤ g
 hgc : B ≤ gc
 ne : g ≠ gc
 wne : wb ≠ gc
 st : StAt W (fun k => (B ≤ k ∧ k ≠ g) ∧ k < gc) g s0
 ck : CkAt W gc ck1
 c0 : W.cell? ⟨wb, 0, none⟩ = some (ptrV g)
 c1 : W.cell? ⟨wb, 1, none⟩ = some (ptrV gc)
def GotFresh (B : Nat) (s0 : St) (e : Ending) (w' : World) : Prop := ∃ wb g gc, e = .returned (.tuple #[.pointer (some ⟨wb, 0, none⟩), .bool true]) ∧ FrAt B s0 wb g gc w'
theorem fresh21_any (w : World) (s0 : St) (hs : newS 1 2 = some s0) : Calls Tryz.prog 63 #[] w fun e w' => GotFresh w.heap.size s0 e w' ∧ Below w.heap.size w w' := by
 have C1 := newState_any 1 2 w (i64_small 1 (by omega)) (i64_small 2 (by omega))
 unfold GotState at C1
 rw [hs] at C1
 dsimp only at C1
 clear hs
 go_enter Tryz.func63, Tryz.ntmps63
 go_wp2_with fail
 refine C1.mono ?_
 clear C1
 rintro e w1 ⟨⟨g, rfl, hg, hst, _⟩, hb1⟩
 have H1 := jh (ja hst hb1)
 have C2 := clkNew_any 1 1 w1 ⟨⟨by decide, by decide⟩, by decide, by decide⟩
 have hz1 := hb1.size
 clear hst hb1
 unfold ptrV
 go_wp2_with fail
 refine C2.mono ?_
 clear C2
 rintro e w2 ⟨rfl, hc2, hz2, hb2⟩
 have H2 := jh (ja hc2 (H1.out.2.tr hb2))
 have hst2 : StAt w2 (fun k => (w.heap.size ≤ k ∧ k ≠ g) ∧ k < w1.heap.size) g s0 := by
  obtain ⟨v, a, b⟩ := H1.out.1
  exact ⟨v, a.ext hb2, b.low.same (js hb2)⟩
 have hgl := H1.out.1.lt
 have HS := jh hst2
 clear hc2 hb2 hst2
 have C3 := rNew_any 1 2 w2 (by omega) (by omega)
 unfold GotPtr at C3
 go_wp2_with fail
 refine C3.mono ?_
 clear C3
 rintro e w3 ⟨⟨gm, rfl, hgm⟩, hb3⟩
 have H3 := jh hb3
 have hz3 := hb3.size
 clear hb3
 have C4 := rNewClock_any w3
 unfold GotPtr at C4
 go_wp2_with fail
 refine C4.mono ?_
 clear C4
 rintro e w4 ⟨⟨gd, rfl, hgd⟩, hb4⟩
 have H4 := jh (H3.out.tr hb4)
 have hz4 := hb4.size
 clear hb4
 go_wp2_with fail
 go_ret2
 have hbn := H4.out.al (.cells #[.pointer (some ⟨g, 0, none⟩), .pointer (some ⟨w1.heap.size, 0, none⟩), .pointer (some ⟨gm, 0, none⟩), .pointer (some ⟨gd, 0, none⟩)] 127)
 have B := Blk.new w4 127 [.pointer (some ⟨g, 0, none⟩), .pointer (some ⟨w1.heap.size, 0, none⟩), .pointer (some ⟨gm, 0, none⟩), .pointer (some ⟨gd, 0, none⟩)]
 refine ⟨⟨w4.heap.size, g, w1.heap.size, rfl, ?_⟩, H2.out.2.tr hbn⟩
 exact ⟨by omega, hg, by omega, by omega, by omega, by
  obtain ⟨v, a, b⟩ := HS.out
  exact ⟨v, a.ext hbn, b.same (js hbn)⟩, Blk.ext H2.out.1 hbn, B.cell 0, B.cell 1⟩
end Go.Proofs.YtcmjgghkmdbphaaGreatDoor
