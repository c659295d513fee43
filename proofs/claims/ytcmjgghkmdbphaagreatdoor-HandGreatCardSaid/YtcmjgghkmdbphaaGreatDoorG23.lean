/- hand.Copies: what goes elsewhere now. The reference's new ring, new state, new clock; the ring at a text. hand's law: made, with no records. part's law: awake. A struct out of a row, by an operation with a guard that holds. hand's law: awake. The laws' own names: Round, Stream. HandBack: what is computed. -/
import Derived.Test.YtcmjgghkmdbphaaGreatDoorG22
import Derived.Test.YtcmjgghkmdbphaaGreatDoorG09
import Derived.Test.YtcmjgghkmdbphaaGreatDoorG17
import Derived.Test.YtcmjgghkmdbphaaGreatDoorG11
import Derived.Laws.ResultCell
import Derived.Test.YtcmjgghkmdbphaaGreatDoorG07
import Derived.Laws.StructEq
import Derived.Test.YtcmjgghkmdbphaaGreatDoorG08
import Derived.Test.YtcmjgghkmdbphaaGreatDoorG12
import Derived.Test.YtcmjgghkmdbphaaGreatDoorG20
import Derived.Laws.BytesArg
set_option maxRecDepth 20000
set_option maxHeartbeats 25600000
namespace Go.Proofs.YtcmjgghkmdbphaaGreatDoor
open Go.RowKit
structure Copy where
 range : Range
 floor : Stamp
 streams : List Stream
def CopyR : Rep Copy := (RangeR.cat (StampR.cat StreamR.sl)).via fun c => (c.range, c.floor, c.streams)
def Copy.cells (c : Copy) (A : Option Addr) (q : Nat) : List Value := [.int .i64 c.range.first, .int .i64 c.range.last, .int .i64 c.range.owner, .int .i64 c.range.epoch, .int .i64 c.floor.wall, .int .i64 c.floor.logic, .int .i64 c.floor.node, .slice A c.streams.length q]
theorem copy_rep {w : World} {P : Nat → Prop} {cs : List Value} {c : Copy} : CopyR.rep w P cs c ↔ ∃ A q, cs = c.cells A q ∧ c.range.fit ∧ c.floor.fit ∧ c.streams.length ≤ q ∧ q ≤ 9223372036854775807 ∧ StreamR.Row w P A c.streams := by
 constructor
 ·rintro ⟨c1, c2, rfl, hr, c3, c4, rfl, hs, A, q, rfl, h3, h4, h5⟩
  obtain ⟨rfl, h1⟩ := range_rep.1 hr
  obtain ⟨rfl, h2⟩ := stamp_rep.1 hs
  exact ⟨A, q, rfl, h1, h2, h3, h4, h5⟩
 ·rintro ⟨A, q, rfl, h1, h2, h3, h4, h5⟩
  exact ⟨_, _, rfl, range_rep.2 ⟨rfl, h1⟩, _, _, rfl, stamp_rep.2 ⟨rfl, h2⟩, A, q, rfl, h3, h4, h5⟩
theorem copy_info : (Tryz.prog.info? 139).map (fun i => (i.zero, i.size, i.bytes)) = some (some (.agg #[.int .i64 0, .int .i64 0, .int .i64 0, .int .i64 0, .int .i64 0, .int .i64 0, .int .i64 0, .slice none 0 0]), 8, 80) := by kernel_rfl
def copyOf (s : St) (now : Stamp) (f : Rec) : List Copy := if lockedS s f.range then [] else [⟨⟨f.range.first, f.range.last, f.to, f.range.epoch + 1⟩, now, takeT s.table f.range⟩]
def copiesP (s : St) (now : Stamp) : List Copy := s.frozen.flatMap (copyOf s now)
theorem copies_take {s : St} {now : Stamp} {k : Nat} (h : k < s.frozen.length) : (s.frozen.take (k + 1)).flatMap (copyOf s now) = (s.frozen.take k).flatMap (copyOf s now) ++ copyOf s now s.frozen[k] := by
 rw [take_snoc _ _ h, List.flatMap_append]; simp
theorem copies_len (s : St) (now : Stamp) (l : List Rec) : (l.flatMap (copyOf s now)).length ≤ l.length := by
 induction l with
 | nil => simp
 | cons a l ih =>
   rw [List.flatMap_cons, List.length_append, List.length_cons]
   have : (copyOf s now a).length ≤ 1 := by unfold copyOf; split <;> simp
   omega
structure CpD (nb xb yb : Nat) (ns xs ys : List Value) (B : Nat) (W0 W : World) : Prop where
 n : Blk W nb 40 ns
 x : Blk W xb 46 xs
 y : Blk W yb 27 ys
 b : Below B W0 W
section
variable {nb xb yb B : Nat} {ns xs ys : List Value} {W0 W W' : World}
theorem CpD.cn (i : Nat) (d : Wd (CpD nb xb yb ns xs ys B W0)) : d.w.cell? ⟨nb, i, none⟩ = ns[i]? := d.ok.n.cell i
theorem CpD.cx (i : Nat) (d : Wd (CpD nb xb yb ns xs ys B W0)) : d.w.cell? ⟨xb, i, none⟩ = xs[i]? := d.ok.x.cell i
theorem CpD.cy (i : Nat) (d : Wd (CpD nb xb yb ns xs ys B W0)) : d.w.cell? ⟨yb, i, none⟩ = ys[i]? := d.ok.y.cell i
theorem CpD.drew (h : CpD nb xb yb ns xs ys B W0 W) : CpD nb xb yb ns xs ys B W0 W.drew := ⟨h.n.drew, h.x.drew, h.y.drew, h.b.drew⟩
theorem CpD.ext (h : CpD nb xb yb ns xs ys B W0 W) (hB : B ≤ W.heap.size) (hb : Below W.heap.size W W') : CpD nb xb yb ns xs ys B W0 W' := ⟨h.n.ext hb, h.x.ext hb, h.y.ext hb, h.b.trans (hb.mono hB)⟩
end
theorem copies_any (g : Nat) (s : St) (now : Stamp) (P : Nat → Prop) (w : World) (h : StAt w P g s) (hS : Fit s) (hn : now.fit) (hfl : s.frozen.length ≤ 1000) (hfr : ∀ f ∈ s.frozen, 1 ≤ f.range.epoch ∧ f.range.epoch ≤ 1099511627776) :
 Calls Tryz.prog 71 #[ptrV g, .agg #[.int .i64 now.wall, .int .i64 now.logic, .int .i64 now.node]] w fun e w' => GotOwn CopyR w.heap.size 139 (fun k => w.heap.size ≤ k) (copiesP s now) e w' ∧ Below w.heap.size w w' := by
 have HST := jh (fun W (hW : Below w.heap.size w W) => (show StAt W (fun k => P k ∧ k < w.heap.size) g s from by obtain ⟨v, a, b⟩ := h; exact ⟨v, a.ext hW, b.low.same (js hW)⟩))
 have hb0 := (jb w.heap.size w).al (.cells #[.int .i64 now.wall, .int .i64 now.logic, .int .i64 now.node] 40)
 have B0 := Blk.new w 40 [.int .i64 now.wall, .int .i64 now.logic, .int .i64 now.node]
 have C1 := sfrozen_any g s _ _ (HST.out _ hb0) hS.self (by omega)
 have HF := jh (ja hS (ja hn (ja hfl hfr)))
 have HB := jh (ja hb0 B0)
 clear h hS hn hfl hfr hb0 B0
 unfold GotOwn ptrV at C1
 unfold ptrV
 go_enter Tryz.func71, Tryz.ntmps71
 go_wp2_with fail
 refine C1.mono ?_
 clear C1
 rintro e w1 ⟨⟨v, rfl, ho⟩, hb1⟩
 obtain ⟨A, c, rfl, _⟩ := ho.form
 have HW := jh (ja (HB.out.1.tr hb1) (ja (HB.out.2.ext hb1) ((ho.row (fun _ hk => .inl hk)).mono (Q := fun k => w.heap.size ≤ k ∨ (P k ∧ k < w.heap.size)) (fun k hk _ => hk.elim (fun q => .inl (Nat.le_trans HB.out.1.size q)) .inr))))
 clear ho hb1 HB
 go_wp2_with fail
 go_loopw [4, 11] (fun ov iv wr => ∃ k : Nat, k ≤ s.frozen.length ∧ iv = .int .i64 k ∧ CopyR.Own wr w1.heap.size 139 (fun q => w.heap.size ≤ q) ov ((s.frozen.take k).flatMap (copyOf s now)) ∧ Below w1.heap.size w1 wr) (fun _ iv _ => s.frozen.length - (intOf iv).toNat)
 case atStart => exact ⟨0, Nat.zero_le _, rfl, by simpa using Rep.Own.nil_, jb _ _⟩
 case round =>
  obtain ⟨k, hk, rfl, hown, hbl⟩ := hrel
  have hzr := hbl.size
  have hl1000 := HF.out.2.2.1
  by_cases hlt : k < s.frozen.length
  ·have hlt' : (k : Int) < s.frozen.length := by omega
   have hlk := jg hlt
   have hts := copies_take (now := now) hlt
   have hfe := HF.out.2.2.2 _ (List.getElem_mem hlt)
   have hcl := copies_len s now (s.frozen.take k)
   rw [List.length_take] at hcl
   obtain ⟨b, o, nA, nc, pA, pc, sA, sc, rfl, hbw, hrec, hcs⟩ := recs_at (HW.out.2.2.ext hbl) hlk
   generalize s.frozen[k] = f at *
   generalize (s.frozen.take k).flatMap (copyOf s now) = L at *
   have HX := jh (ja hown (ja hbl (ja hts (ja hrec.range hrec.to))))
   have hll : L.length ≤ 1000 := by omega
   obtain ⟨hfe1, hfe2⟩ := hfe
   unfold Rec.cells at hcs
   have HCS := jh hcs
   clear hown hbl hts hlk hrec hcs hcl
   have hbx := (jb wr.heap.size wr).al (.cells #[.int .i64 f.kind, .int .i64 f.n, .int .i64 f.to, .bool f.yes, .int .i64 f.stamp.wall, .int .i64 f.stamp.logic, .int .i64 f.stamp.node, .int .i64 f.tx.node, .int .i64 f.tx.life, .int .i64 f.tx.num, .slice nA f.nodes.length nc, .string f.batch.key, .slice pA f.batch.puts.length pc, .int .i64 f.range.first, .int .i64 f.range.last, .int .i64 f.range.owner, .int .i64 f.range.epoch, .slice sA f.streams.length sc] 46)
   have BX := Blk.new wr 46 [.int .i64 f.kind, .int .i64 f.n, .int .i64 f.to, .bool f.yes, .int .i64 f.stamp.wall, .int .i64 f.stamp.logic, .int .i64 f.stamp.node, .int .i64 f.tx.node, .int .i64 f.tx.life, .int .i64 f.tx.num, .slice nA f.nodes.length nc, .string f.batch.key, .slice pA f.batch.puts.length pc, .int .i64 f.range.first, .int .i64 f.range.last, .int .i64 f.range.owner, .int .i64 f.range.epoch, .slice sA f.streams.length sc]
   go_upto_region 4 with (first
    | ((with_reducible refine wpList_load_at rfl rfl ?_ HCS.out Tryz.underlying46 rfl (by kernel_rfl) ?_); · rfl)
    | (refine wpList_store_new (cs := #[.int .i64 f.kind, .int .i64 f.n, .int .i64 f.to, .bool f.yes, .int .i64 f.stamp.wall, .int .i64 f.stamp.logic, .int .i64 f.stamp.node, .int .i64 f.tx.node, .int .i64 f.tx.life, .int .i64 f.tx.num, .slice nA f.nodes.length nc, .string f.batch.key, .slice pA f.batch.puts.length pc, .int .i64 f.range.first, .int .i64 f.range.last, .int .i64 f.range.owner, .int .i64 f.range.epoch, .slice sA f.streams.length sc]) rfl rfl rfl rfl rfl (by kernel_rfl) rfl (by simp [Value.oneCell']) ?_)
    | fail)
   have hwx0 : Below w.heap.size w (wr.alloc (.cells #[.int .i64 f.kind, .int .i64 f.n, .int .i64 f.to, .bool f.yes, .int .i64 f.stamp.wall, .int .i64 f.stamp.logic, .int .i64 f.stamp.node, .int .i64 f.tx.node, .int .i64 f.tx.life, .int .i64 f.tx.num, .slice nA f.nodes.length nc, .string f.batch.key, .slice pA f.batch.puts.length pc, .int .i64 f.range.first, .int .i64 f.range.last, .int .i64 f.range.owner, .int .i64 f.range.epoch, .slice sA f.streams.length sc] 46)) := (HW.out.1.tr HX.out.2.1).tr hbx
   have HBX := jh (ja BX (ja hbx hwx0))
   clear BX hbx hwx0
   generalize wr.alloc (.cells #[.int .i64 f.kind, .int .i64 f.n, .int .i64 f.to, .bool f.yes, .int .i64 f.stamp.wall, .int .i64 f.stamp.logic, .int .i64 f.stamp.node, .int .i64 f.tx.node, .int .i64 f.tx.life, .int .i64 f.tx.num, .slice nA f.nodes.length nc, .string f.batch.key, .slice pA f.batch.puts.length pc, .int .i64 f.range.first, .int .i64 f.range.last, .int .i64 f.range.owner, .int .i64 f.range.epoch, .slice sA f.streams.length sc] 46) = wx at *
   have x0 := HBX.out.1.cell
   have hxl := HBX.out.1.lt
   have CL := locked_any g s f.range _ wx (HST.out wx HBX.out.2.2) HF.out.1.self (fun y hy => by have := (HF.out.1.held y hy).few; omega)
   unfold ptrV at CL
   cases hlo : lockedS s f.range
   ·rw [hlo] at CL
    have HCO := jh (show copyOf s now f = [⟨⟨f.range.first, f.range.last, f.to, f.range.epoch + 1⟩, now, takeT s.table f.range⟩] from by unfold copyOf; rw [hlo]; rfl)
    clear hlo
    go_wp2_with fail
    refine CL.mono ?_
    clear CL x0 hxl
    rintro e w3 ⟨rfl, hb3⟩
    have H3 := jh (ja (HBX.out.1.ext hb3) (HBX.out.2.1.tr hb3))
    clear hb3 HBX
    have x0 := H3.out.1.cell
    have hxl := H3.out.1.lt
    go_upto_region 6 with (first
     | (refine wpList_store_new (cs := #[.int .i64 f.range.first, .int .i64 f.range.last, .int .i64 f.range.owner, .int .i64 f.range.epoch]) rfl rfl rfl rfl rfl (by kernel_rfl) rfl (by simp [Value.oneCell']) ?_)
     | fail)
    have hb4 := H3.out.2.al (.cells #[.int .i64 f.range.first, .int .i64 f.range.last, .int .i64 f.range.owner, .int .i64 f.range.epoch] 27)
    have B4 := H3.out.1.alloc (.cells #[.int .i64 f.range.first, .int .i64 f.range.last, .int .i64 f.range.owner, .int .i64 f.range.epoch] 27)
    have Y4 := Blk.new w3 27 [.int .i64 f.range.first, .int .i64 f.range.last, .int .i64 f.range.owner, .int .i64 f.range.epoch]
    have hz4 := H3.out.2.size
    generalize hw4 : w3.alloc (.cells #[.int .i64 f.range.first, .int .i64 f.range.last, .int .i64 f.range.owner, .int .i64 f.range.epoch] 27) = w4 at *
    clear hw4 x0 hxl
    have x0 := B4.cell
    have hxl := B4.lt
    have y0 := Y4.cell
    have hyl := Y4.lt
    have yf := Y4.frozen
    go_upto_region 7 with fail
    have hbS := (((HX.out.2.1.tr hb4).st (p := ⟨w3.heap.size, 2, none⟩) (by have := HX.out.2.1.size; have := H3.out.2.size; show _ ≤ w3.heap.size; omega) (.int .i64 f.to)).st (p := ⟨w3.heap.size, 3, none⟩) (by have := HX.out.2.1.size; have := H3.out.2.size; show _ ≤ w3.heap.size; omega) (.int .i64 (f.range.epoch + 1)))
    have hbR := (((hb4).st (p := ⟨w3.heap.size, 2, none⟩) (by have := H3.out.2.size; show _ ≤ w3.heap.size; omega) (.int .i64 f.to)).st (p := ⟨w3.heap.size, 3, none⟩) (by have := H3.out.2.size; show _ ≤ w3.heap.size; omega) (.int .i64 (f.range.epoch + 1)))
    have hne : wr.heap.size ≠ w3.heap.size := by have := H3.out.1.lt; omega
    have Y5 := (Y4.set_ 2 (.int .i64 f.to)).set_ 3 (.int .i64 (f.range.epoch + 1))
    have B5 := (B4.far (p := ⟨w3.heap.size, 2, none⟩) hne (.int .i64 f.to)).far (p := ⟨w3.heap.size, 3, none⟩) hne (.int .i64 (f.range.epoch + 1))
    generalize hw5 : ((w4.setCell ⟨w3.heap.size, 2, none⟩ (.int .i64 f.to)).setCell ⟨w3.heap.size, 3, none⟩ (.int .i64 (f.range.epoch + 1))) = w5 at *
    clear hw5 x0 hxl y0 hyl yf Y4 B4 hb4 hz4
    have hD : CpD w.heap.size wr.heap.size w3.heap.size [.int .i64 now.wall, .int .i64 now.logic, .int .i64 now.node] [.int .i64 f.kind, .int .i64 f.n, .int .i64 f.to, .bool f.yes, .int .i64 f.stamp.wall, .int .i64 f.stamp.logic, .int .i64 f.stamp.node, .int .i64 f.tx.node, .int .i64 f.tx.life, .int .i64 f.tx.num, .slice nA f.nodes.length nc, .string f.batch.key, .slice pA f.batch.puts.length pc, .int .i64 f.range.first, .int .i64 f.range.last, .int .i64 f.range.owner, .int .i64 f.range.epoch, .slice sA f.streams.length sc] [.int .i64 f.range.first, .int .i64 f.range.last, .int .i64 f.to, .int .i64 (f.range.epoch + 1)] w1.heap.size w1 w5 := ⟨HW.out.2.1.ext hbS, B5, Y5, hbS⟩
    have HD := jh (ja hD (ja hbR hne))
    haveI : Nonempty (Wd (CpD w.heap.size wr.heap.size w3.heap.size [.int .i64 now.wall, .int .i64 now.logic, .int .i64 now.node] [.int .i64 f.kind, .int .i64 f.n, .int .i64 f.to, .bool f.yes, .int .i64 f.stamp.wall, .int .i64 f.stamp.logic, .int .i64 f.stamp.node, .int .i64 f.tx.node, .int .i64 f.tx.life, .int .i64 f.tx.num, .slice nA f.nodes.length nc, .string f.batch.key, .slice pA f.batch.puts.length pc, .int .i64 f.range.first, .int .i64 f.range.last, .int .i64 f.range.owner, .int .i64 f.range.epoch, .slice sA f.streams.length sc] [.int .i64 f.range.first, .int .i64 f.range.last, .int .i64 f.to, .int .i64 (f.range.epoch + 1)] w1.heap.size w1)) := ⟨⟨_, hD⟩⟩
    clear hbS hbR hne Y5 B5
    have n0 : ∀ d : Wd (CpD w.heap.size wr.heap.size w3.heap.size [.int .i64 now.wall, .int .i64 now.logic, .int .i64 now.node] [.int .i64 f.kind, .int .i64 f.n, .int .i64 f.to, .bool f.yes, .int .i64 f.stamp.wall, .int .i64 f.stamp.logic, .int .i64 f.stamp.node, .int .i64 f.tx.node, .int .i64 f.tx.life, .int .i64 f.tx.num, .slice nA f.nodes.length nc, .string f.batch.key, .slice pA f.batch.puts.length pc, .int .i64 f.range.first, .int .i64 f.range.last, .int .i64 f.range.owner, .int .i64 f.range.epoch, .slice sA f.streams.length sc] [.int .i64 f.range.first, .int .i64 f.range.last, .int .i64 f.to, .int .i64 (f.range.epoch + 1)] w1.heap.size w1), d.w.cell? ⟨w.heap.size, 0, none⟩ = some (.int .i64 now.wall) := CpD.cn 0
    have n1 : ∀ d : Wd (CpD w.heap.size wr.heap.size w3.heap.size [.int .i64 now.wall, .int .i64 now.logic, .int .i64 now.node] [.int .i64 f.kind, .int .i64 f.n, .int .i64 f.to, .bool f.yes, .int .i64 f.stamp.wall, .int .i64 f.stamp.logic, .int .i64 f.stamp.node, .int .i64 f.tx.node, .int .i64 f.tx.life, .int .i64 f.tx.num, .slice nA f.nodes.length nc, .string f.batch.key, .slice pA f.batch.puts.length pc, .int .i64 f.range.first, .int .i64 f.range.last, .int .i64 f.range.owner, .int .i64 f.range.epoch, .slice sA f.streams.length sc] [.int .i64 f.range.first, .int .i64 f.range.last, .int .i64 f.to, .int .i64 (f.range.epoch + 1)] w1.heap.size w1), d.w.cell? ⟨w.heap.size, 1, none⟩ = some (.int .i64 now.logic) := CpD.cn 1
    have n2 : ∀ d : Wd (CpD w.heap.size wr.heap.size w3.heap.size [.int .i64 now.wall, .int .i64 now.logic, .int .i64 now.node] [.int .i64 f.kind, .int .i64 f.n, .int .i64 f.to, .bool f.yes, .int .i64 f.stamp.wall, .int .i64 f.stamp.logic, .int .i64 f.stamp.node, .int .i64 f.tx.node, .int .i64 f.tx.life, .int .i64 f.tx.num, .slice nA f.nodes.length nc, .string f.batch.key, .slice pA f.batch.puts.length pc, .int .i64 f.range.first, .int .i64 f.range.last, .int .i64 f.range.owner, .int .i64 f.range.epoch, .slice sA f.streams.length sc] [.int .i64 f.range.first, .int .i64 f.range.last, .int .i64 f.to, .int .i64 (f.range.epoch + 1)] w1.heap.size w1), d.w.cell? ⟨w.heap.size, 2, none⟩ = some (.int .i64 now.node) := CpD.cn 2
    have x13 : ∀ d : Wd (CpD w.heap.size wr.heap.size w3.heap.size [.int .i64 now.wall, .int .i64 now.logic, .int .i64 now.node] [.int .i64 f.kind, .int .i64 f.n, .int .i64 f.to, .bool f.yes, .int .i64 f.stamp.wall, .int .i64 f.stamp.logic, .int .i64 f.stamp.node, .int .i64 f.tx.node, .int .i64 f.tx.life, .int .i64 f.tx.num, .slice nA f.nodes.length nc, .string f.batch.key, .slice pA f.batch.puts.length pc, .int .i64 f.range.first, .int .i64 f.range.last, .int .i64 f.range.owner, .int .i64 f.range.epoch, .slice sA f.streams.length sc] [.int .i64 f.range.first, .int .i64 f.range.last, .int .i64 f.to, .int .i64 (f.range.epoch + 1)] w1.heap.size w1), d.w.cell? ⟨wr.heap.size, 13, none⟩ = some (.int .i64 f.range.first) := CpD.cx 13
    have x14 : ∀ d : Wd (CpD w.heap.size wr.heap.size w3.heap.size [.int .i64 now.wall, .int .i64 now.logic, .int .i64 now.node] [.int .i64 f.kind, .int .i64 f.n, .int .i64 f.to, .bool f.yes, .int .i64 f.stamp.wall, .int .i64 f.stamp.logic, .int .i64 f.stamp.node, .int .i64 f.tx.node, .int .i64 f.tx.life, .int .i64 f.tx.num, .slice nA f.nodes.length nc, .string f.batch.key, .slice pA f.batch.puts.length pc, .int .i64 f.range.first, .int .i64 f.range.last, .int .i64 f.range.owner, .int .i64 f.range.epoch, .slice sA f.streams.length sc] [.int .i64 f.range.first, .int .i64 f.range.last, .int .i64 f.to, .int .i64 (f.range.epoch + 1)] w1.heap.size w1), d.w.cell? ⟨wr.heap.size, 14, none⟩ = some (.int .i64 f.range.last) := CpD.cx 14
    have x15 : ∀ d : Wd (CpD w.heap.size wr.heap.size w3.heap.size [.int .i64 now.wall, .int .i64 now.logic, .int .i64 now.node] [.int .i64 f.kind, .int .i64 f.n, .int .i64 f.to, .bool f.yes, .int .i64 f.stamp.wall, .int .i64 f.stamp.logic, .int .i64 f.stamp.node, .int .i64 f.tx.node, .int .i64 f.tx.life, .int .i64 f.tx.num, .slice nA f.nodes.length nc, .string f.batch.key, .slice pA f.batch.puts.length pc, .int .i64 f.range.first, .int .i64 f.range.last, .int .i64 f.range.owner, .int .i64 f.range.epoch, .slice sA f.streams.length sc] [.int .i64 f.range.first, .int .i64 f.range.last, .int .i64 f.to, .int .i64 (f.range.epoch + 1)] w1.heap.size w1), d.w.cell? ⟨wr.heap.size, 15, none⟩ = some (.int .i64 f.range.owner) := CpD.cx 15
    have x16 : ∀ d : Wd (CpD w.heap.size wr.heap.size w3.heap.size [.int .i64 now.wall, .int .i64 now.logic, .int .i64 now.node] [.int .i64 f.kind, .int .i64 f.n, .int .i64 f.to, .bool f.yes, .int .i64 f.stamp.wall, .int .i64 f.stamp.logic, .int .i64 f.stamp.node, .int .i64 f.tx.node, .int .i64 f.tx.life, .int .i64 f.tx.num, .slice nA f.nodes.length nc, .string f.batch.key, .slice pA f.batch.puts.length pc, .int .i64 f.range.first, .int .i64 f.range.last, .int .i64 f.range.owner, .int .i64 f.range.epoch, .slice sA f.streams.length sc] [.int .i64 f.range.first, .int .i64 f.range.last, .int .i64 f.to, .int .i64 (f.range.epoch + 1)] w1.heap.size w1), d.w.cell? ⟨wr.heap.size, 16, none⟩ = some (.int .i64 f.range.epoch) := CpD.cx 16
    have y0 : ∀ d : Wd (CpD w.heap.size wr.heap.size w3.heap.size [.int .i64 now.wall, .int .i64 now.logic, .int .i64 now.node] [.int .i64 f.kind, .int .i64 f.n, .int .i64 f.to, .bool f.yes, .int .i64 f.stamp.wall, .int .i64 f.stamp.logic, .int .i64 f.stamp.node, .int .i64 f.tx.node, .int .i64 f.tx.life, .int .i64 f.tx.num, .slice nA f.nodes.length nc, .string f.batch.key, .slice pA f.batch.puts.length pc, .int .i64 f.range.first, .int .i64 f.range.last, .int .i64 f.range.owner, .int .i64 f.range.epoch, .slice sA f.streams.length sc] [.int .i64 f.range.first, .int .i64 f.range.last, .int .i64 f.to, .int .i64 (f.range.epoch + 1)] w1.heap.size w1), d.w.cell? ⟨w3.heap.size, 0, none⟩ = some (.int .i64 f.range.first) := CpD.cy 0
    have y1 : ∀ d : Wd (CpD w.heap.size wr.heap.size w3.heap.size [.int .i64 now.wall, .int .i64 now.logic, .int .i64 now.node] [.int .i64 f.kind, .int .i64 f.n, .int .i64 f.to, .bool f.yes, .int .i64 f.stamp.wall, .int .i64 f.stamp.logic, .int .i64 f.stamp.node, .int .i64 f.tx.node, .int .i64 f.tx.life, .int .i64 f.tx.num, .slice nA f.nodes.length nc, .string f.batch.key, .slice pA f.batch.puts.length pc, .int .i64 f.range.first, .int .i64 f.range.last, .int .i64 f.range.owner, .int .i64 f.range.epoch, .slice sA f.streams.length sc] [.int .i64 f.range.first, .int .i64 f.range.last, .int .i64 f.to, .int .i64 (f.range.epoch + 1)] w1.heap.size w1), d.w.cell? ⟨w3.heap.size, 1, none⟩ = some (.int .i64 f.range.last) := CpD.cy 1
    have y2 : ∀ d : Wd (CpD w.heap.size wr.heap.size w3.heap.size [.int .i64 now.wall, .int .i64 now.logic, .int .i64 now.node] [.int .i64 f.kind, .int .i64 f.n, .int .i64 f.to, .bool f.yes, .int .i64 f.stamp.wall, .int .i64 f.stamp.logic, .int .i64 f.stamp.node, .int .i64 f.tx.node, .int .i64 f.tx.life, .int .i64 f.tx.num, .slice nA f.nodes.length nc, .string f.batch.key, .slice pA f.batch.puts.length pc, .int .i64 f.range.first, .int .i64 f.range.last, .int .i64 f.range.owner, .int .i64 f.range.epoch, .slice sA f.streams.length sc] [.int .i64 f.range.first, .int .i64 f.range.last, .int .i64 f.to, .int .i64 (f.range.epoch + 1)] w1.heap.size w1), d.w.cell? ⟨w3.heap.size, 2, none⟩ = some (.int .i64 f.to) := CpD.cy 2
    have y3 : ∀ d : Wd (CpD w.heap.size wr.heap.size w3.heap.size [.int .i64 now.wall, .int .i64 now.logic, .int .i64 now.node] [.int .i64 f.kind, .int .i64 f.n, .int .i64 f.to, .bool f.yes, .int .i64 f.stamp.wall, .int .i64 f.stamp.logic, .int .i64 f.stamp.node, .int .i64 f.tx.node, .int .i64 f.tx.life, .int .i64 f.tx.num, .slice nA f.nodes.length nc, .string f.batch.key, .slice pA f.batch.puts.length pc, .int .i64 f.range.first, .int .i64 f.range.last, .int .i64 f.range.owner, .int .i64 f.range.epoch, .slice sA f.streams.length sc] [.int .i64 f.range.first, .int .i64 f.range.last, .int .i64 f.to, .int .i64 (f.range.epoch + 1)] w1.heap.size w1), d.w.cell? ⟨w3.heap.size, 3, none⟩ = some (.int .i64 (f.range.epoch + 1)) := CpD.cy 3
    refine wp_region_mix (.seg [0, 1, 2, 3, 4, 5] 6 (.seg [7] 8 (.seg [] 9 (.leaf [10])))) (fun w' => ∃ d : Wd (CpD w.heap.size wr.heap.size w3.heap.size [.int .i64 now.wall, .int .i64 now.logic, .int .i64 now.node] [.int .i64 f.kind, .int .i64 f.n, .int .i64 f.to, .bool f.yes, .int .i64 f.stamp.wall, .int .i64 f.stamp.logic, .int .i64 f.stamp.node, .int .i64 f.tx.node, .int .i64 f.tx.life, .int .i64 f.tx.num, .slice nA f.nodes.length nc, .string f.batch.key, .slice pA f.batch.puts.length pc, .int .i64 f.range.first, .int .i64 f.range.last, .int .i64 f.range.owner, .int .i64 f.range.epoch, .slice sA f.streams.length sc] [.int .i64 f.range.first, .int .i64 f.range.last, .int .i64 f.to, .int .i64 (f.range.epoch + 1)] w1.heap.size w1), w' = d.w) (by kernel_rfl) (by kernel_rfl) (fun _ _ d _ _ h => by cases d <;> exact h) (ClsW.mk (D := CpD w.heap.size wr.heap.size w3.heap.size [.int .i64 now.wall, .int .i64 now.logic, .int .i64 now.node] [.int .i64 f.kind, .int .i64 f.n, .int .i64 f.to, .bool f.yes, .int .i64 f.stamp.wall, .int .i64 f.stamp.logic, .int .i64 f.stamp.node, .int .i64 f.tx.node, .int .i64 f.tx.life, .int .i64 f.tx.num, .slice nA f.nodes.length nc, .string f.batch.key, .slice pA f.batch.puts.length pc, .int .i64 f.range.first, .int .i64 f.range.last, .int .i64 f.range.owner, .int .i64 f.range.epoch, .slice sA f.streams.length sc] [.int .i64 f.range.first, .int .i64 f.range.last, .int .i64 f.to, .int .i64 (f.range.epoch + 1)] w1.heap.size w1) hD.drew) ?_
    unfold wpMix; simp only [pick, j1, j2, j3, j4]
    (repeat (show wpQuiet _ _ _ _ (_ :: _) _; go_big_quiet_step (fail))); refine qn ?_
    have CT := stakeB_any g s f.range _ w5.drew (HST.out w5.drew (HW.out.1.tr (HD.out.1.b.drew))) HF.out.1
    unfold GotStB ptrV at CT
    go_wp2_with fail
    refine CT.mono ?_
    clear CT
    rintro e w7 ⟨⟨A7, c7, rfl, hcap7, hr7⟩, hb7⟩
    have hz5 : w5.drew.heap.size = w5.heap.size := rfl
    have hz51 := HD.out.1.b.size
    have hz5r := HD.out.2.1.size
    have hz7 := hb7.size
    have hD7 : CpD w.heap.size wr.heap.size w3.heap.size [.int .i64 now.wall, .int .i64 now.logic, .int .i64 now.node] [.int .i64 f.kind, .int .i64 f.n, .int .i64 f.to, .bool f.yes, .int .i64 f.stamp.wall, .int .i64 f.stamp.logic, .int .i64 f.stamp.node, .int .i64 f.tx.node, .int .i64 f.tx.life, .int .i64 f.tx.num, .slice nA f.nodes.length nc, .string f.batch.key, .slice pA f.batch.puts.length pc, .int .i64 f.range.first, .int .i64 f.range.last, .int .i64 f.range.owner, .int .i64 f.range.epoch, .slice sA f.streams.length sc] [.int .i64 f.range.first, .int .i64 f.range.last, .int .i64 f.to, .int .i64 (f.range.epoch + 1)] w1.heap.size w1 w7 := HD.out.1.drew.ext (by omega) hb7
    have hD8 : CpD w.heap.size wr.heap.size w3.heap.size [.int .i64 now.wall, .int .i64 now.logic, .int .i64 now.node] [.int .i64 f.kind, .int .i64 f.n, .int .i64 f.to, .bool f.yes, .int .i64 f.stamp.wall, .int .i64 f.stamp.logic, .int .i64 f.stamp.node, .int .i64 f.tx.node, .int .i64 f.tx.life, .int .i64 f.tx.num, .slice nA f.nodes.length nc, .string f.batch.key, .slice pA f.batch.puts.length pc, .int .i64 f.range.first, .int .i64 f.range.last, .int .i64 f.range.owner, .int .i64 f.range.epoch, .slice sA f.streams.length sc] [.int .i64 f.range.first, .int .i64 f.range.last, .int .i64 f.to, .int .i64 (f.range.epoch + 1)] w1.heap.size w1 (w7.alloc (.cells #[.int .i64 f.range.first, .int .i64 f.range.last, .int .i64 f.to, .int .i64 (f.range.epoch + 1), .int .i64 now.wall, .int .i64 now.logic, .int .i64 now.node, .slice A7 (takeT s.table f.range).length c7] 139)) := hD7.ext (by omega) (jb _ _ |>.al _)
    have H7 := jh (ja hcap7 (ja hr7 (ja hb7 hD7)))
    clear hcap7 hr7 hb7
    go_wp2_with fail
    (refine segw (D := CpD w.heap.size wr.heap.size w3.heap.size [.int .i64 now.wall, .int .i64 now.logic, .int .i64 now.node] [.int .i64 f.kind, .int .i64 f.n, .int .i64 f.to, .bool f.yes, .int .i64 f.stamp.wall, .int .i64 f.stamp.logic, .int .i64 f.stamp.node, .int .i64 f.tx.node, .int .i64 f.tx.life, .int .i64 f.tx.num, .slice nA f.nodes.length nc, .string f.batch.key, .slice pA f.batch.puts.length pc, .int .i64 f.range.first, .int .i64 f.range.last, .int .i64 f.range.owner, .int .i64 f.range.epoch, .slice sA f.streams.length sc] [.int .i64 f.range.first, .int .i64 f.range.last, .int .i64 f.to, .int .i64 (f.range.epoch + 1)] w1.heap.size w1) (hD7) ?_; unfold wpMix; simp only [pick, j1, j2, j3, j4]; (repeat (show wpQuiet _ _ _ _ (_ :: _) _; go_big_quiet_step (fail))); refine qn ?_)
    go_wp2_with fail
    (refine segw (D := CpD w.heap.size wr.heap.size w3.heap.size [.int .i64 now.wall, .int .i64 now.logic, .int .i64 now.node] [.int .i64 f.kind, .int .i64 f.n, .int .i64 f.to, .bool f.yes, .int .i64 f.stamp.wall, .int .i64 f.stamp.logic, .int .i64 f.stamp.node, .int .i64 f.tx.node, .int .i64 f.tx.life, .int .i64 f.tx.num, .slice nA f.nodes.length nc, .string f.batch.key, .slice pA f.batch.puts.length pc, .int .i64 f.range.first, .int .i64 f.range.last, .int .i64 f.range.owner, .int .i64 f.range.epoch, .slice sA f.streams.length sc] [.int .i64 f.range.first, .int .i64 f.range.last, .int .i64 f.to, .int .i64 (f.range.epoch + 1)] w1.heap.size w1) (hD8) ?_; unfold wpMix; simp only [pick, j1, j2, j3, j4]; (repeat (show wpQuiet _ _ _ _ (_ :: _) _; go_big_quiet_step (fail))); refine qn ?_)
    have hfn := HF.out.2.1
    obtain ⟨i0, r1, r2, r3, r4⟩ := info_parts copy_info
    have hown7 := HX.out.1.ext (HD.out.2.1.tr (Below.trans ((jb w5.heap.size w5).drew) (H7.out.2.2.1)))
    have hrep7 : CopyR.rep w7 (fun q => w5.drew.heap.size ≤ q) ((⟨⟨f.range.first, f.range.last, f.to, f.range.epoch + 1⟩, now, takeT s.table f.range⟩ : Copy).cells A7 c7) (⟨⟨f.range.first, f.range.last, f.to, f.range.epoch + 1⟩, now, takeT s.table f.range⟩ : Copy) := copy_rep.2 ⟨A7, c7, rfl, ⟨HX.out.2.2.2.1.1, HX.out.2.2.2.1.2.1, HX.out.2.2.2.2, by show i64 (f.range.epoch + 1); exact ⟨by omega, by omega⟩⟩, hfn, H7.out.1.1, H7.out.1.2, H7.out.2.1⟩
    refine wpList_append_new (R := CopyR) (cs := (⟨⟨f.range.first, f.range.last, f.to, f.range.epoch + 1⟩, now, takeT s.table f.range⟩ : Copy).cells A7 c7) w7 rfl (.tmp 28) (.tmp 36) _ rfl w1.heap.size 139 i0 _ 80 Tryz.underlying145 r1 r2 r3 r4 rfl _ L (fun q => w.heap.size ≤ q) rfl hown7 (fun q hq => by have := HW.out.1.size; omega) rfl (fun q => w5.drew.heap.size ≤ q) (⟨⟨f.range.first, f.range.last, f.to, f.range.epoch + 1⟩, now, takeT s.table f.range⟩ : Copy) hrep7 (fun q h1 h2 => ⟨by have := HW.out.1.size; omega, fun e => by
     have h3 := (HX.out.1.lt q e.symm).2
     omega⟩) (by unfold maxLen; omega) (by omega) (by omega) ?_
    intro v8 w8 ho8 hg8 hat8 hne8 hb8
    have hO8 : Only (fun q => w1.heap.size ≤ q ∧ q < wr.heap.size) w7 w8 := Only.grown hg8 fun q e => HX.out.1.lt q e
    have hD9 : CpD w.heap.size wr.heap.size w3.heap.size [.int .i64 now.wall, .int .i64 now.logic, .int .i64 now.node] [.int .i64 f.kind, .int .i64 f.n, .int .i64 f.to, .bool f.yes, .int .i64 f.stamp.wall, .int .i64 f.stamp.logic, .int .i64 f.stamp.node, .int .i64 f.tx.node, .int .i64 f.tx.life, .int .i64 f.tx.num, .slice nA f.nodes.length nc, .string f.batch.key, .slice pA f.batch.puts.length pc, .int .i64 f.range.first, .int .i64 f.range.last, .int .i64 f.range.owner, .int .i64 f.range.epoch, .slice sA f.streams.length sc] [.int .i64 f.range.first, .int .i64 f.range.last, .int .i64 f.to, .int .i64 (f.range.epoch + 1)] w1.heap.size w1 w8 := ⟨hD7.n.only hO8 (fun e => by have := HW.out.2.1.lt; omega), hD7.x.only hO8 (fun e => by omega), hD7.y.only hO8 (fun e => by have := HD.out.1.x.lt; have := H3.out.2.size; omega), hD7.b.trans hb8⟩
    have H8 := jh (ja ho8 (hD7.b.trans hb8))
    clear ho8 hg8 hat8 hne8 hb8 hO8 hD8 hD7 hD hown7 hrep7 r1 r2 r3 r4
    go_simp
    (refine segw (D := CpD w.heap.size wr.heap.size w3.heap.size [.int .i64 now.wall, .int .i64 now.logic, .int .i64 now.node] [.int .i64 f.kind, .int .i64 f.n, .int .i64 f.to, .bool f.yes, .int .i64 f.stamp.wall, .int .i64 f.stamp.logic, .int .i64 f.stamp.node, .int .i64 f.tx.node, .int .i64 f.tx.life, .int .i64 f.tx.num, .slice nA f.nodes.length nc, .string f.batch.key, .slice pA f.batch.puts.length pc, .int .i64 f.range.first, .int .i64 f.range.last, .int .i64 f.range.owner, .int .i64 f.range.epoch, .slice sA f.streams.length sc] [.int .i64 f.range.first, .int .i64 f.range.last, .int .i64 f.to, .int .i64 (f.range.epoch + 1)] w1.heap.size w1) (hD9) ?_; unfold wpMix; simp only [pick, j1, j2, j3, j4]; (repeat (show wpQuiet _ _ _ _ (_ :: _) _; go_big_quiet_step (fail))); refine qn ?_)
    clear hD9 n0 n1 n2 x13 x14 x15 x16 y0 y1 y2 y3
    go_wp2_with fail
    go_round
    case rel => exact ⟨k + 1, by omega, by go_num, by rw [HX.out.2.2.1, HCO.out]; exact H8.out.1, H8.out.2⟩
    case measure => simp [intOf]; omega
   ·rw [hlo] at CL
    have HCO := jh (show copyOf s now f = [] from by unfold copyOf; rw [hlo]; rfl)
    clear hlo
    go_wp2_with fail
    refine CL.mono ?_
    clear CL x0 hxl
    rintro e w3 ⟨rfl, hb3⟩
    have HB := jh (ja (HX.out.1.ext (HBX.out.2.1.tr hb3)) (HX.out.2.1.tr (HBX.out.2.1.tr hb3)))
    clear hb3 HBX
    go_wp2_with fail
    go_round
    case rel => exact ⟨k + 1, by omega, by go_num, by rw [HX.out.2.2.1, HCO.out, List.append_nil]; exact HB.out.1, HB.out.2⟩
    case measure => simp [intOf]; omega
  ·have hkn : k = s.frozen.length := by omega
   subst hkn
   rw [List.take_length] at hown
   obtain ⟨Ao, co, rfl, _⟩ := hown.form
   have HO := jh (ja hown hbl)
   clear hown hbl
   go_wp2_with fail
   go_ret
   exact ⟨⟨_, rfl, HO.out.1.base' HW.out.1.size⟩, HW.out.1.tr HO.out.2⟩
end Go.Proofs.YtcmjgghkmdbphaaGreatDoor
namespace Go.Proofs.YtcmjgghkmdbphaaGreatDoor
open Go.RowKit
theorem rNewRing_any (N : Nat) (w : World) (hN : 1 ≤ N ∧ N ≤ 5) : Calls Tryz.prog 85 #[.int .i64 N] w fun e w' => GotRing w.heap.size N e w' ∧ Below w.heap.size w w' := by
 have HE := jh (show newR N = ((List.range N).map (newRange N), 0) from by unfold newR; rw [if_neg (by omega)]; rfl)
 have h1 : decide ((N : Int) < 1) = false := jd (by omega)
 have h2 : decide ((5 : Int) < (N : Int)) = false := jd (by omega)
 obtain ⟨N1, N2⟩ := hN
 go_enter Tryz.func85, Tryz.ntmps85
 go_wp2_with fail
 go_loopw [4, 5] (fun out i wr => ∃ k : Nat, k ≤ N ∧ i = .int .i64 (k + 1 : Nat) ∧ RangeR.Own wr w.heap.size 27 (fun _ => True) out ((List.range k).map (newRange N)) ∧ Below w.heap.size w wr) (fun _ i _ => N + 1 - (intOf i).toNat)
 case atStart => exact ⟨0, Nat.zero_le _, rfl, by simpa using Rep.Own.nil_, jb _ _⟩
 case round =>
  obtain ⟨k, hk, rfl, hout, hbl⟩ := hrel
  by_cases hlt : k < N
  ·have hlt' : ((k + 1 : Nat) : Int) ≤ (N : Int) := by omega
   have bd1 := begin_bd N k (by omega) (by omega)
   have bd2 := begin_bd N (k + 1) (by omega) (by omega)
   have hlen : ((List.range k).map (newRange (N : Int))).length = k := by simp
   obtain ⟨Ao, co, hu, _⟩ := hout.form
   rw [hlen] at hu
   subst hu
   have hrx : RangeR.rep wr (fun _ => False) [.int .i64 (beginR N k), .int .i64 (beginR N (k + 1) - 1), .int .i64 ((k : Int) + 1), .int .i64 1] (newRange N k) :=
    range_rep.2 ⟨rfl, show i64 (beginR N k) from ⟨by omega, by omega⟩, show i64 (beginR N (k + 1) - 1) from ⟨by omega, by omega⟩, show i64 ((k : Int) + 1) from ⟨by omega, by omega⟩, show i64 1 from ⟨by omega, by omega⟩⟩
   obtain ⟨i0, e1, e2, e3, e4⟩ := info_parts range_info
   have hwz := hbl.size
   have HBL := jh hbl
   obtain ⟨bd11, bd12⟩ := bd1
   obtain ⟨bd21, bd22⟩ := bd2
   have hwp : wrap64 (((k : Int) + 1) * 4294967296 / (N : Int) - 1) = ((k : Int) + 1) * 4294967296 / (N : Int) - 1 := wrap_in _ (by have e1 : beginR N (k + 1) = ((k : Int) + 1) * 4294967296 / (N : Int) := rfl; omega)
   clear hbl
   go_upto_region 7 with fail
   refine wp_region_mix (.seg [0, 1, 2, 3, 4, 5, 6, 7, 8, 9, 10, 11] 12 (.seg [] 13 (.seg [] 14 (.leaf [15])))) (fun w' => ∃ d : Wd (OnB w.heap.size wr), w' = d.w) (by kernel_rfl) (by kernel_rfl) (fun _ _ d _ _ h => by cases d <;> exact h) (ClsW.mk (jb _ _).drew) ?_
   unfold wpMix; simp only [pick, j1, j2, j3, j4]
   (repeat (show wpQuiet _ _ _ _ (_ :: _) _; go_big_quiet_step (fail))); refine qn ?_
   go_wp2_with fail
   (refine segw (D := OnB (w.heap.size) wr) ((jb _ _).drew) ?_; unfold wpMix; simp only [pick, j1, j2, j3, j4]; (repeat (show wpQuiet _ _ _ _ (_ :: _) _; go_big_quiet_step (fail))); refine qn ?_)
   go_wp2_with fail
   have hbn : Below wr.heap.size wr ((wr.alloc (.cells #[.int .i64 ((k : Int) * 4294967296 / (N : Int)), .int .i64 (((k : Int) + 1) * 4294967296 / (N : Int) - 1), .int .i64 ((k + 1 : Nat) : Int), .int .i64 1] 27)).drew) := by repeat (with_reducible first | assumption | exact jb _ _ | refine Below.al ?_ _ | refine Below.drew ?_ | apply Below.st1)
   have hrow := (Rep.Row.new1 (R := RangeR) (w := wr) (t := 27) (a := newRange N k) (P := fun _ => False) (cs := [.int .i64 (beginR N k), .int .i64 (beginR N (k + 1) - 1), .int .i64 ((k : Int) + 1), .int .i64 1]) hrx).ext ((jb _ _).drew)
   (refine segw (D := OnB (w.heap.size) wr) (hbn.mono hwz) ?_; unfold wpMix; simp only [pick, j1, j2, j3, j4]; (repeat (show wpQuiet _ _ _ _ (_ :: _) _; go_big_quiet_step (fail))); refine qn ?_)
   refine wpList_append_rep (R := RangeR) _ rfl (.tmp 17) (.tmp 30) _ rfl w.heap.size 27 i0 _ 32 Tryz.underlying58 e1 e2 e3 e4 rfl _ ((List.range k).map (newRange (N : Int))) (fun _ => True) rfl (hout.ext hbn) _ _ 1 [newRange N k] rfl hrow (fun g hg _ => ⟨trivial, fun e => by have h1 := (hout.lt g e.symm).2; rcases hg with hg | hg; exact hg; omega⟩) (by unfold maxLen; simp; omega) (by simp; omega) (Nat.le_trans hwz hbn.size) ?_
   intro v1 w6 ho1 hg1 hat1 hn1 hb6
   have hb6' : Below w.heap.size wr w6 := (hbn.mono hwz).trans hb6
   go_simp
   (refine segw (D := OnB (w.heap.size) wr) (hb6') ?_; unfold wpMix; simp only [pick, j1, j2, j3, j4]; (repeat (show wpQuiet _ _ _ _ (_ :: _) _; go_big_quiet_step (fail))); refine qn ?_)
   go_wp2_with fail
   go_round
   case rel =>
    refine ⟨k + 1, by omega, by go_num, ?_, HBL.out.trans hb6'⟩
    rw [List.range_succ, List.map_append]
    exact ho1
   case measure => simp [intOf]; omega
  ·have hkn : k = N := by omega
   subst hkn
   have hlt' : decide (((k + 1 : Nat) : Int) ≤ (k : Int)) = false := jd (by omega)
   go_wp2_with fail
   go_ret2
   refine ⟨⟨_, by rw [HE.out]; rfl, ?_⟩, hbl⟩
   rw [HE.out]
   exact hout.plain range_plain
def GotPtr (B : Nat) (e : Ending) : Prop := ∃ g, e = .returned (.tuple #[.pointer (some ⟨g, 0, none⟩), .int .i64 0]) ∧ B ≤ g
theorem rNew_any (self : Int) (N : Nat) (w : World) (hN : 1 ≤ N ∧ N ≤ 5) (hs : 1 ≤ self ∧ self ≤ N) : Calls Tryz.prog 18 #[.int .i64 self, .int .i64 N] w fun e w' => GotPtr w.heap.size e ∧ Below w.heap.size w w' := by
 have C := rNewRing_any N w hN
 have HE := jh (show newR N = ((List.range N).map (newRange N), 0) from by unfold newR; rw [if_neg (by omega)]; rfl)
 unfold GotRing at C
 rw [HE.out] at C
 dsimp only at C
 obtain ⟨s1, s2⟩ := hs
 have h1 : decide (self < 1) = false := jd (by omega)
 have h2 : decide ((N : Int) < self) = false := jd (by omega)
 go_enter Tryz.func18, Tryz.ntmps18
 go_wp2_with fail
 refine C.mono ?_
 clear C
 rintro e w1 ⟨⟨v, rfl, ho⟩, hb⟩
 obtain ⟨A, c, rfl, _⟩ := ho.form
 clear ho
 have HB := jh hb
 have hz := hb.size
 clear hb
 go_wp2_with fail
 go_ret2
 exact ⟨⟨_, rfl, hz⟩, by have h := HB.out; repeat (with_reducible first | assumption | exact jb _ _ | refine Below.al ?_ _ | refine Below.drew ?_ | apply Below.st1)⟩
end Go.Proofs.YtcmjgghkmdbphaaGreatDoor
namespace Go.Proofs.YtcmjgghkmdbphaaGreatDoor
open Go.RowKit
def GotMade (B : Nat) (s0 : St) (e : Ending) (w' : World) : Prop := ∃ g gm, e = .returned (.tuple #[.pointer (some ⟨g, 0, none⟩), .pointer (some ⟨gm, 0, none⟩)]) ∧ B ≤ g ∧ ∃ n, n ≤ w'.heap.size ∧ StAt w' (fun k => (B ≤ k ∧ k ≠ g) ∧ k < n) g s0
theorem made23_any (i : Int) (w : World) (s0 : St) (hi : 1 ≤ i ∧ i ≤ 2) (hs : newS i 2 = some s0) : Calls Tryz.prog 44 #[.int .i64 i, .int .i64 2, .slice none 0 0] w fun e w' => GotMade w.heap.size s0 e w' ∧ Below w.heap.size w w' := by
 obtain ⟨hi1, hi2⟩ := hi
 have C1 := newState_any i 2 w (i64_small i (by omega)) (i64_small 2 (by omega))
 unfold GotState at C1
 rw [hs] at C1
 dsimp only at C1
 clear hs
 go_enter Tryz.func44, Tryz.ntmps44
 go_wp2_with fail
 refine C1.mono ?_
 clear C1
 rintro e w1 ⟨⟨g, rfl, hg, hst, _⟩, hb1⟩
 have H1 := jh (ja hst hb1)
 have hz1 := hb1.size
 clear hst hb1
 have C3 := rNew_any i 2 w1 (by omega) (by omega)
 unfold GotPtr at C3
 unfold ptrV
 go_wp2_with fail
 refine C3.mono ?_
 clear C3
 rintro e w3 ⟨⟨gm, rfl, hgm⟩, hb3⟩
 have H3 := jh hb3
 clear hb3
 go_wp2_with fail
 go_loopw [12] (fun iv wr => iv = .int .i64 0 ∧ wr = w3) (fun _ _ => 0)
 case atStart => exact ⟨rfl, rfl⟩
 case round =>
  obtain ⟨rfl, rfl⟩ := hrel
  go_wp2_with fail
  go_ret2
  exact ⟨⟨g, gm, rfl, hg, w1.heap.size, H3.out.size, by
   obtain ⟨v, a, b⟩ := H1.out.1
   exact ⟨v, a.ext H3.out, b.low.same (js H3.out)⟩⟩, H1.out.2.tr H3.out⟩
end Go.Proofs.YtcmjgghkmdbphaaGreatDoor
namespace Go.Proofs.YtcmjgghkmdbphaaGreatDoor
open Go.RowKit
def frS : St := ⟨1, 2, 0, 0, (newR 2).1, [], [], [], [], [], []⟩
theorem fr_new : newS 1 2 = some frS := by kernel_rfl
theorem fr_fit : Fit frS := (inv_new fr_new).fit (by decide)
theorem Rep.Row.blk {α : Type} {R : Rep α} {w : World} {g : Nat} {t : TypeId} {cs : List Value} {P : Nat → Prop} {a : α} (h : Blk w g t cs) (hr : R.rep w P cs a) : R.Row w (fun k => P k ∨ k = g) (some ⟨g, 0, none⟩) [a] := fun _ => by
 refine ⟨g, 0, rfl, .inr rfl, h.lt, fun i b hi => ?_⟩
 match i, hi with
 | 0, hi =>
   simp at hi; subst hi
   exact ⟨cs, R.mono hr fun k hk _ => .inl hk, fun j u hu => by rw [h.cell]; simpa using hu⟩
end Go.Proofs.YtcmjgghkmdbphaaGreatDoor
namespace Go.Proofs.YtcmjgghkmdbphaaGreatDoor
open Go.RowKit
theorem wpList_load_atG {P : Program} {ops : Array Oper} {rest : List Oper} {o : Oper} {a : Act} {w : World} {Q : Exit → Act → World → Prop} (hgd : Region.wanted o (yielded ops a.tmps) = true) {ty : TypeId} {x : Operand} (ho : o.op = .load ty x) {b off : Nat} (hx : a.eval x = .pointer (some ⟨b, off, none⟩)) {cs : List Value} {d : TypeDesc}
 (hg : ∀ j u, cs[j]? = some u → w.cell? ⟨b, off + j, none⟩ = some u) (hu : P.underlying ty = some d) (hd : (match d with | .struct _ | .array _ _ => true | _ => false) = true) (hi : (P.info? ty).map (·.size) = some cs.length)
 (h : wpList P ops Q rest (a.put o.dst (.agg cs.toArray)) w) : wpList P ops Q (o :: rest) a w := by
 refine wpList_step fun K' hK' => ?_
 rw [if_pos hgd]
 have hl : (loadCells ⟨b, off, none⟩ cs.length).run P w = .ok cs.toArray w :=
  run_loadCells_list (P := P) w ⟨b, off, none⟩ cs (fun j v hv => by rw [add_off]; exact hg j v hv)
 have hr : (loadVar ty ⟨b, off, none⟩).run P w = .ok (.agg cs.toArray) w := by
  cases hq : P.info? ty with
  | none => simp [hq] at hi
  | some i =>
    have hs : i.size = cs.length := by simpa [hq] using hi
    have hagg : (isAgg ty).run P w = .ok true w := by
     unfold isAgg
     rw [Sem.run_bind, run_underlying hu w]
     cases d <;> simp_all
    simp [loadVar, Sem.run_bind, hagg, sizeOf, typeInfo, hq, hs, hl]
 unfold Oper.wp execOp
 simp only [ho, hx, Instr.loadAt, Instr.sureAddr, Sem.run_bind, Sem.run_pure, Result.andThen_ok, hr]
 exact hK' _ _ h
end Go.Proofs.YtcmjgghkmdbphaaGreatDoor
namespace Go.Proofs.YtcmjgghkmdbphaaGreatDoor
open Go.RowKit
def hw1 : Range := ⟨0, 2147483647, 1, 1⟩
def fzS : St := (applyS frS (frzR hw1 2)).1
theorem hw_x : frzX frS 0 = hw1 := by kernel_rfl
theorem hw_i : frzI frS 0 = 0 := by kernel_rfl
theorem hw_code : (applyS frS (frzR hw1 0)).2 = 1 := by kernel_rfl
theorem hw_code2 : (applyS frS (frzR hw1 2)).2 = 0 := by kernel_rfl
theorem hw_lock : lockedS frS hw1 = false := by kernel_rfl
theorem hw_take : takeT frS.table hw1 = [] := by kernel_rfl
theorem hw_copies : copiesP fzS ⟨5, 0, 1⟩ = [⟨⟨0, 2147483647, 2, 2⟩, ⟨5, 0, 1⟩, []⟩] := by kernel_rfl
theorem hw_fresh : freshT frS.table = [] := by kernel_rfl
theorem hw_ring : frS.ring = [hw1, ⟨2147483648, 4294967295, 2, 1⟩] := by kernel_rfl
theorem hw_fit : hw1.fit := ⟨⟨by decide, by decide⟩, ⟨by decide, by decide⟩, ⟨by decide, by decide⟩, ⟨by decide, by decide⟩⟩
theorem hw_fits : ∀ x ∈ frS.ring, x.fit := by
 rw [hw_ring]
 intro x hx
 simp only [List.mem_cons, List.not_mem_nil, or_false] at hx
 rcases hx with rfl | rfl
 ·exact hw_fit
 ·exact ⟨⟨by decide, by decide⟩, ⟨by decide, by decide⟩, ⟨by decide, by decide⟩, ⟨by decide, by decide⟩⟩
theorem hw_frozen : fzS.frozen = [frzR hw1 2] := by kernel_rfl
theorem fz_fit : Fit fzS := (apply_inv (r := frzR hw1 2) (inv_new fr_new) (by decide)).fit (by decide)
theorem hw_ok : frzOk frS 0 ∧ weighs frS (frzX frS 0) ≤ 30000 ∧ (takeT frS.table (frzX frS 0)).length ≤ 1000 := by
 refine ⟨⟨by rw [hw_i]; decide, by rw [hw_x, hw_code]; decide, by rw [hw_x]; exact hw_lock⟩, ?_, ?_⟩
 ·unfold weighs; rw [hw_x, hw_take]; decide
 ·rw [hw_x, hw_take]; decide
theorem hw_freeze {e : Ending} (h : GotFreeze frS 0 2 e) : e = .returned (.tuple #[.agg (frzV hw1 2).toArray, .int .i64 0]) := by
 rcases h with ⟨_, _, _, hn⟩ | ⟨h, _⟩
 ·exact absurd hw_ok hn
 ·rw [hw_x] at h; exact h
theorem awake23_any (w : World) (hT : Tabs w) (h2 : 2 ≤ w.heap.size) : Calls Tryz.prog 43 #[] w fun e w' => e = .returned (.bool true) ∧ Below w.heap.size w w' := by
 have C1 := made23_any 1 w frS (by omega) fr_new
 unfold GotMade at C1
 have HT := jh hT
 clear hT
 go_enter Tryz.func43, Tryz.ntmps43
 go_wp2_with fail
 refine C1.mono ?_
 clear C1
 rintro e w1 ⟨⟨g, gm, rfl, hg, n, hn, hst⟩, hb1⟩
 have hgl := hst.lt
 have hz1 := hb1.size
 have C2 := freezeH_any g frS 0 2 _ w1 hst fr_fit (by decide) (HT.out.below hb1) (by omega) (by rw [hw_ring]; decide) (by rw [hw_fresh]; decide) hw_fits
 have H1 := jh (ja hst hb1)
 clear hst hb1
 unfold ptrV at C2
 go_wp2_with fail
 refine C2.mono ?_
 clear C2
 rintro e w2 ⟨hgot, hb2⟩
 obtain rfl := hw_freeze hgot
 have H2 := jh (ja (H1.out.2.tr hb2) (show StAt w2 (fun k => ((w.heap.size ≤ k ∧ k ≠ g) ∧ k < n) ∧ k < w1.heap.size) g frS from by obtain ⟨v, a, b⟩ := H1.out.1; exact ⟨v, a.ext hb2, b.low.same (js hb2)⟩))
 have hz2 := hb2.size
 clear hb2 hgot
 unfold frzV
 go_upto_region 5 with (first
  | (refine wpList_store_new (cs := #[.int .i64 9, .int .i64 0, .int .i64 2, .bool false, .int .i64 0, .int .i64 0, .int .i64 0, .int .i64 0, .int .i64 0, .int .i64 0, .slice none 0 0, .string ⟨#[]⟩, .slice none 0 0, .int .i64 hw1.first, .int .i64 hw1.last, .int .i64 hw1.owner, .int .i64 hw1.epoch, .slice none 0 0]) rfl rfl rfl rfl rfl (by kernel_rfl) rfl (by simp [Value.oneCell']) ?_)
  | fail)
 have hb3 := (jb w2.heap.size w2).al (.cells #[.int .i64 9, .int .i64 0, .int .i64 2, .bool false, .int .i64 0, .int .i64 0, .int .i64 0, .int .i64 0, .int .i64 0, .int .i64 0, .slice none 0 0, .string ⟨#[]⟩, .slice none 0 0, .int .i64 hw1.first, .int .i64 hw1.last, .int .i64 hw1.owner, .int .i64 hw1.epoch, .slice none 0 0] 46)
 have HR3 := jh (Blk.new w2 46 [.int .i64 9, .int .i64 0, .int .i64 2, .bool false, .int .i64 0, .int .i64 0, .int .i64 0, .int .i64 0, .int .i64 0, .int .i64 0, .slice none 0 0, .string ⟨#[]⟩, .slice none 0 0, .int .i64 hw1.first, .int .i64 hw1.last, .int .i64 hw1.owner, .int .i64 hw1.epoch, .slice none 0 0])
 have HB3 := jh hb3
 generalize w2.alloc (.cells #[.int .i64 9, .int .i64 0, .int .i64 2, .bool false, .int .i64 0, .int .i64 0, .int .i64 0, .int .i64 0, .int .i64 0, .int .i64 0, .slice none 0 0, .string ⟨#[]⟩, .slice none 0 0, .int .i64 hw1.first, .int .i64 hw1.last, .int .i64 hw1.owner, .int .i64 hw1.epoch, .slice none 0 0] 46) = w3 at *
 have hz3 := hb3.size
 clear hb3
 have hst3 : StAt w3 (fun k => (((w.heap.size ≤ k ∧ k ≠ g) ∧ k < n) ∧ k < w1.heap.size) ∧ k < w2.heap.size) g frS := by
  obtain ⟨v, a, b⟩ := H2.out.2
  exact ⟨v, a.ext HB3.out, b.low.same (js HB3.out)⟩
 have C3 := applyH_any g frS (frzR hw1 2) (.inr (.inl rfl)) none none none 0 0 0 _ (fun _ => False) w3 hst3 (fun h => h.1.1.1.2 rfl) fr_fit (frz_at hw_fit (i64_small 2 (by omega))) (fun h => h) frz_fair (HT.out.below (H2.out.1.tr HB3.out)) (by omega) frz_put (by rw [hw_ring]; decide) (by rw [hw_fresh]; decide)
 unfold StOut at C3
 rw [frz_cells, hw_code2] at C3
 unfold frzV ptrV at C3
 clear hst3
 have HCS := jh (show ∀ (j : Nat) (u : Value), ([.int .i64 9, .int .i64 0, .int .i64 2, .bool false, .int .i64 0, .int .i64 0, .int .i64 0, .int .i64 0, .int .i64 0, .int .i64 0, .slice none 0 0, .string ⟨#[]⟩, .slice none 0 0, .int .i64 hw1.first, .int .i64 hw1.last, .int .i64 hw1.owner, .int .i64 hw1.epoch, .slice none 0 0] : List Value)[j]? = some u → w3.cell? ⟨w2.heap.size, 0 + j, none⟩ = some u from fun j u h => by rw [Nat.zero_add, HR3.out.cell]; exact h)
 go_wp2_with (first
  | ((with_reducible refine wpList_load_atG rfl rfl ?_ HCS.out Tryz.underlying46 rfl (by kernel_rfl) ?_); · rfl)
  | fail)
 refine C3.mono ?_
 clear C3
 rintro e w4 ⟨rfl, hst4, hO4⟩
 have hgw : ¬ (w.heap.size + 0 > g) := by omega
 have hb4 : Below w.heap.size w w4 := (H2.out.1.tr HB3.out).trans (hO4.low (fun k e => by have e' : k = g := e; omega) (by have := H2.out.1.size; omega))
 have HST4 := jh (show StAt w4 (fun k => ((((w.heap.size ≤ k ∧ k ≠ g) ∧ k < n) ∧ k < w1.heap.size) ∧ k < w2.heap.size) ∨ w3.heap.size ≤ k) g fzS from hst4)
 have HB4 := jh hb4
 clear hb4 hst4 hO4 hgw
 have C4 := copies_any g fzS ⟨5, 0, 1⟩ _ w4 HST4.out fz_fit ⟨⟨by decide, by decide⟩, ⟨by decide, by decide⟩, ⟨by decide, by decide⟩⟩ (by rw [hw_frozen]; decide) (fun f hf => by rw [hw_frozen] at hf; rcases List.mem_singleton.1 hf with rfl; exact ⟨by decide, by decide⟩)
 rw [hw_copies] at C4
 unfold GotOwn ptrV at C4
 go_wp2_with fail
 refine C4.mono ?_
 clear C4
 rintro e w5 ⟨⟨v, rfl, ho⟩, hb5⟩
 obtain ⟨A, q, rfl, _⟩ := ho.form
 obtain ⟨b, o, cs, rfl, _, hbw, hrep, hcs⟩ := (ho.row (fun _ hk => hk)).at_ (show ([⟨⟨0, 2147483647, 2, 2⟩, ⟨5, 0, 1⟩, []⟩] : List Copy)[0]? = some ⟨⟨0, 2147483647, 2, 2⟩, ⟨5, 0, 1⟩, []⟩ from rfl)
 obtain ⟨A', q', rfl, _⟩ := copy_rep.1 hrep
 have c0 : w5.cell? ⟨b, o, none⟩ = some (.int .i64 0) := by simpa using hcs 0 _ rfl
 have c1 : w5.cell? ⟨b, o + 1, none⟩ = some (.int .i64 2147483647) := by simpa using hcs 1 _ rfl
 have c2 : w5.cell? ⟨b, o + 2, none⟩ = some (.int .i64 2) := by simpa using hcs 2 _ rfl
 have c3 : w5.cell? ⟨b, o + 3, none⟩ = some (.int .i64 2) := by simpa using hcs 3 _ rfl
 have c4 : w5.cell? ⟨b, o + 4, none⟩ = some (.int .i64 5) := by simpa using hcs 4 _ rfl
 have HB5 := jh (HB4.out.tr hb5)
 clear ho hrep hcs hb5
 go_wp2_with fail
 go_ret
 exact ⟨ret_bool rfl, HB5.out⟩
end Go.Proofs.YtcmjgghkmdbphaaGreatDoor
namespace Go.Proofs.YtcmjgghkmdbphaaGreatDoor
open Go.RowKit
theorem round_any (n m : Int) (w : World) (hn : 0 ≤ n ∧ n ≤ 1000000) (hm : 1 ≤ m ∧ m ≤ 1000000) : Calls Tryz.prog 136 #[.int .i64 n, .int .i64 m] w fun e w' => e = .returned (.int .i64 (n % m)) ∧ w = w' := by
 obtain ⟨hn0, hn1⟩ := hn
 obtain ⟨hm0, hm1⟩ := hm
 have h0 : 0 ≤ n % m := Int.emod_nonneg _ (by omega)
 have h0' : decide (n % m < 0) = false := jd (by omega)
 go_enter Tryz.func136, Tryz.ntmps136
 go_wp2
 go_ret
 exact ⟨rfl, rfl⟩
end Go.Proofs.YtcmjgghkmdbphaaGreatDoor
namespace Go.Proofs.YtcmjgghkmdbphaaGreatDoor
open Go.RowKit
theorem sortS_one (n : Str) : sortS [n] = [n] := by simp [sortS]
def rgK (o e : Int) : List Range := [⟨0, 2147483647, o, e⟩, ⟨2147483648, 4294967295, 2, 1⟩]
def hbS (self o e : Int) (T : Tab) (F : List Rec) (L : List Event) : St := ⟨self, 2, 0, 0, rgK o e, T, [], [], [], F, L⟩
end Go.Proofs.YtcmjgghkmdbphaaGreatDoor
