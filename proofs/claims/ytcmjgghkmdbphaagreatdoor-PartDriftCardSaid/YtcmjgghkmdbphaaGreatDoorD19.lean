/- PartDrift: what is computed. A struct out of a row, by an operation with a guard that holds. PartDrift: the law's walk. -/
import Derived.Test.YtcmjgghkmdbphaaGreatDoorD18
import Derived.Test.YtcmjgghkmdbphaaGreatDoorD16
import Derived.Test.YtcmjgghkmdbphaaGreatDoorD14
import Derived.Test.YtcmjgghkmdbphaaGreatDoorD07
set_option maxRecDepth 20000
set_option maxHeartbeats 25600000
namespace Go.Proofs.YtcmjgghkmdbphaaGreatDoor
open Go.RowKit
def ckR (n : Int) : Clk := ⟨n, ⟨1, 0, 1⟩⟩
theorem read_ck {n : Int} (h0 : 0 ≤ n) (h1 : n ≤ 1099511627776) : readC ck1 n = ckR n := by
 unfold readC ck1 ckR
 by_cases h : (0 : Int) < n
 ·rw [if_pos ⟨h, by omega⟩]
 ·rw [if_neg (fun hh => h hh.1)]
  have : n = 0 := by omega
  rw [this]
theorem ckR_ok {n : Int} (h0 : 0 ≤ n) (h1 : n ≤ 1099511627776) : (ckR n).Ok := ⟨by show (1 : Int) ≤ 1 ∧ (1 : Int) ≤ 5; decide, by show (0 : Int) ≤ 1 ∧ (1 : Int) ≤ _; decide, by show (0 : Int) ≤ 0 ∧ (0 : Int) ≤ _; decide, by show 0 ≤ n ∧ n ≤ _; omega⟩
theorem merge_zero (n : Int) : mergeC (ckR n) zeroStamp = (ckR n, 0) := by
 unfold mergeC
 rw [if_neg (by decide), if_neg (fun h => absurd h.1 (by show ¬ (1 : Int) < 0; decide))]
 rfl
theorem aw_new : newS 1 1 = some awS := by kernel_rfl
theorem aw_fitS : Fit awS := (inv_new aw_new).fit (by decide)
theorem aw_mayA : mayS awS (frB ⟨#[97]⟩) = ([1], zeroKnown, 0) := by kernel_rfl
def nxt (n : Int) : Stamp := if 1 < n then ⟨n, 0, 1⟩ else ⟨1, 1, 1⟩
theorem tick_ck (n : Int) : tickC (ckR n) = (⟨n, nxt n⟩, nxt n, 0) := by
 have h : nextC (ckR n) = nxt n := by unfold nextC nxt ckR; rfl
 unfold tickC
 rw [h, if_neg]
 ·rfl
 ·unfold nxt; split
  ·show ¬ (65536 : Int) ≤ 0; decide
  ·show ¬ (65536 : Int) ≤ 1; decide
theorem nxt_bd {n : Int} (h0 : 0 ≤ n) (h1 : n ≤ 1099511627776) : (nxt n).wall = (if 1 < n then n else 1) ∧ (0 ≤ (nxt n).wall ∧ (nxt n).wall ≤ 1099511627776) ∧ (0 ≤ (nxt n).logic ∧ (nxt n).logic ≤ 1) ∧ (nxt n).node = 1 := by
 unfold nxt
 split
 ·exact ⟨rfl, ⟨h0, h1⟩, ⟨Int.le_refl 0, (by decide : (0 : Int) ≤ 1)⟩, rfl⟩
 ·exact ⟨rfl, ⟨(by decide : (0 : Int) ≤ 1), (by decide : (1 : Int) ≤ 1099511627776)⟩, ⟨(by decide : (0 : Int) ≤ 1), Int.le_refl 1⟩, rfl⟩
theorem drift_far {n w : Int} (h0 : 0 ≤ n) (hw : 0 ≤ w ∧ w ≤ 2199023255552) (h : n + 1000 < w) : prepP awS (ckR n) tx1 (frB ⟨#[97]⟩) ⟨w, 0, 2⟩ = (ckR n, noP 6) := by
 have hs : soundB ⟨w, 0, 2⟩ = true := by unfold soundB withinB; simp; omega
 have hm : mergeC (ckR n) ⟨w, 0, 2⟩ = (ckR n, 6) := by
  unfold mergeC
  rw [if_neg (by rw [hs]; simp), if_pos ⟨by show 1 < w; omega, by show 1000 < w - n; omega⟩]
 unfold prepP
 rw [show getA tx1 awS.held = none from rfl, hm]
 rfl
theorem drift_prep (n : Int) : prepP awS (ckR n) tx1 (frB ⟨#[97]⟩) zeroStamp = (⟨n, nxt n⟩, ⟨[prepR tx1 (frB ⟨#[97]⟩) (nxt n)], 0, nxt n, [1]⟩) := by
 unfold prepP
 rw [show getA tx1 awS.held = none from rfl, merge_zero]
 dsimp only
 rw [if_neg (by decide), if_neg (by decide)]
 unfold prepM
 rw [aw_mayA, tick_ck, if_pos rfl, if_neg (by simp)]
theorem nxt_sound {n : Int} (h0 : 0 ≤ n) (h1 : n ≤ 1099511627776) : soundB (nxt n) = true := by
 obtain ⟨_, h2, h3, h4⟩ := nxt_bd h0 h1
 unfold soundB withinB
 rw [h4]
 simp
 omega
theorem prep_check {st : Stamp} (h : soundB st = true) : checkR (prepR tx1 (frB ⟨#[97]⟩) st) = 0 := by
 have e : recB (prepR tx1 (frB ⟨#[97]⟩) st) = !((!soundB st) || false) := by kernel_rfl
 unfold checkR
 rw [e, h]
 rfl
def heldS (st : Stamp) : St := { awS with held := [(tx1, ⟨tx1, frB ⟨#[97]⟩, st, [1]⟩)] }
theorem drift_apply {st : Stamp} (h : soundB st = true) : applyS awS (prepR tx1 (frB ⟨#[97]⟩) st) = (heldS st, 0) := by
 unfold applyS
 rw [if_neg (by rw [prep_check h]; simp), doS_4 rfl]
 unfold prepareS
 rw [show (getA (prepR tx1 (frB ⟨#[97]⟩) st).tx awS.held).isSome = false from rfl, if_neg (by simp), if_neg (show ¬ 0 < (getA (prepR tx1 (frB ⟨#[97]⟩) st).tx awS.decided).getD 0 from (by decide : ¬ (0 : Int) < 0))]
 rw [show (prepR tx1 (frB ⟨#[97]⟩) st).batch = frB ⟨#[97]⟩ from rfl, aw_mayA, if_pos rfl]
 rfl
theorem held_fit {st : Stamp} (h : soundB st = true) : Fit (heldS st) := by
 have hi := apply_inv (r := prepR tx1 (frB ⟨#[97]⟩) st) (inv_new aw_new) (by decide)
 rw [drift_apply h] at hi
 exact hi.fit (show 0 + costR (prepR tx1 (frB ⟨#[97]⟩) ⟨0, 0, 0⟩) ≤ 39000 by decide)
theorem drift_dec {n w : Int} (h0 : 0 ≤ n) (h1 : n ≤ 1099511627776) (hw : 0 ≤ w ∧ w ≤ 2199023255552) :
 (n + 1000 < w → decP (heldS (nxt n)) ⟨n, nxt n⟩ tx1 true ⟨w, 0, 2⟩ = (⟨n, nxt n⟩, [], false)) ∧
 (¬ n + 1000 < w → ∃ c, decP (heldS (nxt n)) ⟨n, nxt n⟩ tx1 true ⟨w, 0, 2⟩ = (c, [decR tx1 true ⟨w, 0, 2⟩], true)) := by
 have hb := nxt_bd h0 h1
 have hs : soundB ⟨w, 0, 2⟩ = true := by unfold soundB withinB; simp; omega
 have hg : (getA tx1 (heldS (nxt n)).held).isNone = false := rfl
 constructor
 ·intro h
  have hm : mergeC ⟨n, nxt n⟩ ⟨w, 0, 2⟩ = (⟨n, nxt n⟩, 6) := by
   unfold mergeC
   rw [if_neg (by rw [hs]; simp), if_pos ⟨by show (nxt n).wall < w; rw [hb.1]; split <;> omega, by show 1000 < w - n; omega⟩]
  unfold decP
  rw [hg, hm]
  rfl
 ·intro h
  have hm : (mergeC ⟨n, nxt n⟩ ⟨w, 0, 2⟩).2 = 0 := by
   unfold mergeC
   rw [if_neg (by rw [hs]; simp), if_neg (fun hh => h (by have h2 : 1000 < w - n := hh.2; omega))]
  refine ⟨(mergeC ⟨n, nxt n⟩ ⟨w, 0, 2⟩).1, ?_⟩
  unfold decP
  rw [hg, hm]
  rfl
end Go.Proofs.YtcmjgghkmdbphaaGreatDoor
namespace Go.Proofs.YtcmjgghkmdbphaaGreatDoor
open Go.RowKit
theorem wpList_load_atG {P : Program} {ops : Array Oper} {rest : List Oper} {o : Oper} {a : Act} {w : World} {Q : Exit → Act → World → Prop} (hgd : Region.wanted o (yielded ops a.tmps) = true) {ty : TypeId} {x : Operand} (ho : o.op = .load ty x) {b off : Nat} (hx : a.eval x = .pointer (some ⟨b, off, none⟩)) {cs : List Value} {d : TypeDesc}
 (hg : ∀ j u, cs[j]? = some u → w.cell? ⟨b, off + j, none⟩ = some u) (hu : P.underlying ty = some d) (hd : (match d with | .struct _ | .array _ _ => true | _ => false) = true) (hi : (P.info? ty).map (·.size) = some cs.length)
 (h : wpList P ops Q rest (a.put o.dst (.agg cs.toArray)) w) : wpList P ops Q (o :: rest) a w := by
 refine wpList_step fun K' hK' => ?_
 rw [if_pos hgd]
 have hl : (loadCells ⟨b, off, none⟩ cs.length).run P w = .ok cs.toArray w :=
  run_loadCells_list (P := P) w ⟨b, off, none⟩ cs (fun j v hv => by rw [add_off]; exact hg j v hv)
 have hr : (loadVar ty ⟨b, off, none⟩).run P w = .ok (.agg cs.toArray) w := by
  cases hq : P.info? ty with
  | none => simp [hq] at hi
  | some i =>
    have hs : i.size = cs.length := by simpa [hq] using hi
    have hagg : (isAgg ty).run P w = .ok true w := by
     unfold isAgg
     rw [Sem.run_bind, run_underlying hu w]
     cases d <;> simp_all
    simp [loadVar, Sem.run_bind, hagg, sizeOf, typeInfo, hq, hs, hl]
 unfold Oper.wp execOp
 simp only [ho, hx, Instr.loadAt, Instr.sureAddr, Sem.run_bind, Sem.run_pure, Result.andThen_ok, hr]
 exact hK' _ _ h
end Go.Proofs.YtcmjgghkmdbphaaGreatDoor
namespace Go.Proofs.YtcmjgghkmdbphaaGreatDoor
open Go.RowKit
theorem i64_wf {n : Int} (h : (Lit.int .i64 n).wf = true) : i64 n := by
 have h1 : IntKind.i64.min ≤ n ∧ n ≤ IntKind.i64.max := by simpa [Lit.wf] using h
 have e1 : IntKind.i64.min = -9223372036854775808 := rfl
 have e2 : IntKind.i64.max = 9223372036854775807 := rfl
 rw [e1, e2] at h1
 exact h1
structure NwAt (w : World) (g gc : Nat) (s : St) (c : Clk) (W : World) : Prop where
 st : StAt W (fun k => w.heap.size ≤ k ∧ k ≠ g ∧ k ≠ gc) g s
 ck : CkAt W gc c
 hg : w.heap.size ≤ g
 hgc : w.heap.size ≤ gc
 ne : g ≠ gc
 tabs : Tabs W
 below : Below w.heap.size w W
section
variable {w W W' : World} {g gc : Nat} {s s' : St} {c c' : Clk}
theorem NwAt.ext (h : NwAt w g gc s c W) (hb : Below W.heap.size W W') : NwAt w g gc s c W' :=
 ⟨by obtain ⟨v, a, b⟩ := h.st; exact ⟨v, a.ext hb, b.same (js hb)⟩, Blk.ext h.ck hb, h.hg, h.hgc, h.ne, h.tabs.below hb, h.below.tr hb⟩
theorem NwAt.clk (h : NwAt w g gc s c W) (h2 : 2 ≤ w.heap.size) (hc : CkAt W' gc c') (hO : Only (· = gc) W W') : NwAt w g gc s c' W' :=
 ⟨by obtain ⟨v, a, b⟩ := h.st; exact ⟨v, a.only hO h.ne, b.same (Same.of_only hO fun k hk e => hk.2.2 e)⟩, hc, h.hg, h.hgc, h.ne,
  h.tabs.only hO (by intro e; have e' : 0 = gc := e; have := h.hgc; omega) (by intro e; have e' : 1 = gc := e; have := h.hgc; omega), h.below.trans (hO.low (fun k e => by have e' : k = gc := e; have := h.hgc; omega) h.below.size)⟩
theorem NwAt.stt (h : NwAt w g gc s c W) (h2 : 2 ≤ w.heap.size) (hs : StAt W' (fun k => (w.heap.size ≤ k ∧ k ≠ g ∧ k ≠ gc) ∨ W.heap.size ≤ k) g s') (hO : Only (· = g) W W') : NwAt w g gc s' c W' :=
 ⟨by
  obtain ⟨v, a, b⟩ := hs
  have h1 := h.st.lt
  have h2 := h.ck.lt
  have h3 := h.below.size
  exact ⟨v, a, b.mono fun k hk => by rcases hk with hk | hk; exact hk; exact ⟨by omega, by omega, by omega⟩⟩, Blk.only h.ck hO (fun e => h.ne e.symm), h.hg, h.hgc, h.ne,
  h.tabs.only hO (by intro e; have e' : 0 = g := e; have := h.hg; omega) (by intro e; have e' : 1 = g := e; have := h.hg; omega), h.below.trans (hO.low (fun k e => by have e' : k = g := e; have := h.hg; omega) h.below.size)⟩
end
theorem prep_fair {st : Stamp} : (prepR tx1 (frB ⟨#[97]⟩) st).Fair := ⟨by show (1 : Nat) ≤ _; decide, fun p hp => by rcases List.mem_singleton.1 hp with rfl; show (1 : Nat) ≤ _; decide, by show (0 : Nat) ≤ _; decide, by show (0 : Nat) ≤ _; decide, by show (0 : Nat) ≤ _; decide, fun s hs => by cases hs⟩
structure MsAt (xb : Nat) (W : World) : Prop where
 x : Blk W xb 9 [.string ⟨#[120]⟩]
 p : Blk W (xb + 1) 69 [.string ⟨#[97]⟩, .int .i64 (-1), .slice (some ⟨xb, 0, none⟩) 1 1]
 m : Blk W (xb + 1 + 1) 109 [.int .i64 2, .int .i64 1, .int .i64 1, .string ⟨#[]⟩, .slice (some ⟨xb + 1, 0, none⟩) 1 1, .int .i64 0, .int .i64 0, .int .i64 0]
theorem MsAt.ext {xb : Nat} {W W' : World} (h : MsAt xb W) (hb : Below W.heap.size W W') : MsAt xb W' := ⟨h.x.ext hb, h.p.ext hb, h.m.ext hb⟩
theorem MsAt.only {xb : Nat} {W W' : World} {F : Nat → Prop} (h : MsAt xb W) (hO : Only F W W') (hF : ∀ k, xb ≤ k → k ≤ xb + 2 → ¬ F k) : MsAt xb W' :=
 ⟨h.x.only hO (hF _ (by omega) (by omega)), h.p.only hO (hF _ (by omega) (by omega)), h.m.only hO (hF _ (by omega) (by omega))⟩
theorem partDrift_law (n wall : Int) (w : World) (_hn : i64 n) (_hw : i64 wall) (hT : Tabs w) (h2 : 2 ≤ w.heap.size) :
 Calls Tryz.prog 8 #[.int .i64 n, .int .i64 wall] w fun e w' => e = .returned (.bool true) ∧ Below w.heap.size w w' := by
 have CA := jh (fun W (hW : Below w.heap.size w W) => awake21_any W (hT.below hW) (by have := hW.size; omega))
 have HT := jh hT
 clear hT _hn _hw
 have hcase : n < 0 ∨ (decide (n < 0) = false ∧ 1099511627776 < n) ∨ (decide (n < 0) = false ∧ decide (1099511627776 < n) = false ∧ wall < 0) ∨ (decide (n < 0) = false ∧ decide (1099511627776 < n) = false ∧ decide (wall < 0) = false ∧ 2199023255552 < wall) ∨
  ((decide (n < 0) = false ∧ decide (1099511627776 < n) = false ∧ decide (wall < 0) = false ∧ decide (2199023255552 < wall) = false) ∧ 0 ≤ n ∧ n ≤ 1099511627776 ∧ 0 ≤ wall ∧ wall ≤ 2199023255552) := by
  simp only [decide_eq_false_iff_not]; omega
 rcases hcase with h | ⟨h, h'⟩ | ⟨h, h', h''⟩ | ⟨h, h', h'', h3⟩ | ⟨⟨h, h', h'', h3⟩, n0, n1, w0, w1⟩
 iterate 4
  ·go_enter Tryz.func8, Tryz.ntmps8
   go_wp2_with fail
   refine (CA.out w (jb _ _)).mono ?_
   rintro e w1 ⟨rfl, hb1⟩
   go_wp2_with fail
   go_ret
   exact ⟨rfl, hb1⟩
 have C1 := newState_any 1 1 w (i64_small 1 (by omega)) (i64_small 1 (by omega))
 unfold GotState at C1
 rw [aw_new] at C1
 dsimp only at C1
 have hwn : wrap64 (n + 1000) = n + 1000 := wrap_in _ (by omega)
 go_enter Tryz.func8, Tryz.ntmps8
 go_wp2_with fail
 refine C1.mono ?_
 clear C1
 rintro e wa ⟨⟨g, rfl, hg, hst, _⟩, hb1⟩
 have hz1 := hb1.size
 have HS := jh (ja hst hb1)
 have C2 := clkNew_any 1 1 wa ⟨⟨by decide, by decide⟩, by decide, by decide⟩
 have hgl := hst.lt
 clear hst hb1
 unfold ptrV
 go_wp2_with fail
 refine C2.mono ?_
 clear C2
 rintro e wb ⟨rfl, hc2, hz2, hb2⟩
 have HN := jh (show NwAt w g wa.heap.size awS ck1 wb from ⟨by
  obtain ⟨v, a, b⟩ := HS.out.1
  exact ⟨v, a.ext hb2, (b.low.same (js hb2)).mono fun k hk => ⟨hk.1.1, hk.1.2, by have := hk.2; omega⟩⟩, hc2, hg, hz1, by omega, HT.out.below (HS.out.2.tr hb2), HS.out.2.tr hb2⟩)
 clear hc2 hb2 HS
 have C3 := clkRead_any wa.heap.size ck1 n wb HN.out.ck (by decide)
 rw [read_ck n0 n1] at C3
 go_wp2_with fail
 refine C3.mono ?_
 clear C3
 rintro e wc ⟨rfl, hc3, hO3⟩
 have HN3 := jh (HN.out.clk h2 hc3 hO3)
 have hz3 := hO3.size
 clear hc3 hO3 HN
 go_upto_region 9 with fail
 have hm3 : Below wc.heap.size wc (((wc.alloc (.cells #[.string ⟨#[120]⟩] 9)).alloc (.cells #[.string ⟨#[97]⟩, .int .i64 (-1), .slice (some ⟨wc.heap.size, 0, none⟩) 1 1] 69)).alloc (.cells #[.int .i64 2, .int .i64 1, .int .i64 1, .string ⟨#[]⟩, .slice (some ⟨wc.heap.size + 1, 0, none⟩) 1 1, .int .i64 0, .int .i64 0, .int .i64 0] 109)) := by repeat (with_reducible first | assumption | exact jb _ _ | refine Below.al ?_ _ | refine Below.drew ?_ | apply Below.st1)
 have HM := jh (show MsAt wc.heap.size (((wc.alloc (.cells #[.string ⟨#[120]⟩] 9)).alloc (.cells #[.string ⟨#[97]⟩, .int .i64 (-1), .slice (some ⟨wc.heap.size, 0, none⟩) 1 1] 69)).alloc (.cells #[.int .i64 2, .int .i64 1, .int .i64 1, .string ⟨#[]⟩, .slice (some ⟨wc.heap.size + 1, 0, none⟩) 1 1, .int .i64 0, .int .i64 0, .int .i64 0] 109)) from
  ⟨((Blk.new wc 9 [.string ⟨#[120]⟩]).alloc _).alloc _, (Blk.new1 wc (.cells #[.string ⟨#[120]⟩] 9) 69 [.string ⟨#[97]⟩, .int .i64 (-1), .slice (some ⟨wc.heap.size, 0, none⟩) 1 1]).alloc _, by
    have h := Blk.new1 (wc.alloc (.cells #[.string ⟨#[120]⟩] 9)) (.cells #[.string ⟨#[97]⟩, .int .i64 (-1), .slice (some ⟨wc.heap.size, 0, none⟩) 1 1] 69) 109 [.int .i64 2, .int .i64 1, .int .i64 1, .string ⟨#[]⟩, .slice (some ⟨wc.heap.size + 1, 0, none⟩) 1 1, .int .i64 0, .int .i64 0, .int .i64 0]
    rw [World.size_alloc] at h
    exact h⟩)
 have HN4 := jh (HN3.out.ext hm3)
 have hgx : g < wc.heap.size := by omega
 have hcx : wa.heap.size < wc.heap.size := by omega
 clear hm3 HN3
 generalize ((wc.alloc (.cells #[.string ⟨#[120]⟩] 9)).alloc (.cells #[.string ⟨#[97]⟩, .int .i64 (-1), .slice (some ⟨wc.heap.size, 0, none⟩) 1 1] 69)).alloc (.cells #[.int .i64 2, .int .i64 1, .int .i64 1, .string ⟨#[]⟩, .slice (some ⟨wc.heap.size + 1, 0, none⟩) 1 1, .int .i64 0, .int .i64 0, .int .i64 0] 109) = wd at *
 have m0 := HM.out.m.cell
 have hlm := HM.out.m.lt
 by_cases hA : n + 1000 < wall
 ·have hA1 : 1 < wall := by omega
  have hA2 : (nxt n).wall < wall := by rw [(nxt_bd n0 n1).1]; split <;> omega
  go_upto_region 13 with fail
  have hbm : Below wd.heap.size wd (wd.alloc (.cells #[.int .i64 2, .int .i64 1, .int .i64 1, .string ⟨#[]⟩, .slice (some ⟨wc.heap.size + 1, 0, none⟩) 1 1, .int .i64 wall, .int .i64 0, .int .i64 2] 109)) := by repeat (with_reducible first | assumption | exact jb _ _ | refine Below.al ?_ _ | refine Below.drew ?_ | apply Below.st1)
  have HN5 := jh (HN4.out.ext hbm)
  have HM5 := jh (HM.out.ext hbm)
  have HS := jh (Blk.new wd 109 [.int .i64 2, .int .i64 1, .int .i64 1, .string ⟨#[]⟩, .slice (some ⟨wc.heap.size + 1, 0, none⟩) 1 1, .int .i64 wall, .int .i64 0, .int .i64 2])
  have hxd : wc.heap.size + 1 + 1 < wd.heap.size := hlm
  clear hbm HN4 HM m0 hlm
  generalize wd.alloc (.cells #[.int .i64 2, .int .i64 1, .int .i64 1, .string ⟨#[]⟩, .slice (some ⟨wc.heap.size + 1, 0, none⟩) 1 1, .int .i64 wall, .int .i64 0, .int .i64 2] 109) = wf at *
  have m0 := HS.out.cell
  have hlm := HS.out.lt
  have CP := partPrepare_any g wa.heap.size awS (ckR n) tx1 (frB ⟨#[97]⟩) ⟨wall, 0, 2⟩ (some ⟨wc.heap.size + 1, 0, none⟩) 1 _ _ wf HN5.out.st aw_fitS (by decide) (fun p hp => by cases hp) HN5.out.ck (ckR_ok n0 n1) HN5.out.ne (fun h => h.2.2 rfl) (fun h => by rcases h with h | h <;> omega) (by omega) (put_row (by show (1 : Nat) ≤ _; omega) HM5.out.x HM5.out.p) ⟨Nat.le_refl _, by decide⟩ ⟨by decide, by show (0 : Nat) ≤ _; omega, fun p hp => by rcases List.mem_singleton.1 hp with rfl; decide⟩ tx1_fit HN5.out.tabs
  rw [drift_far n0 ⟨w0, w1⟩ hA] at CP
  unfold PlanOut ptrV prepV planV noP zeroStamp at CP
  dsimp only [List.length_cons, List.length_nil] at CP
  go_wp2_with fail
  refine CP.mono ?_
  clear CP m0 hlm
  rintro e wg ⟨⟨rA, rc, fA, fc, rfl, _, _, _, _⟩, hck, hO⟩
  have hbw : Below wg.heap.size wg (wg.alloc (.cells #[.slice rA 0 rc, .int .i64 tx1.node, .int .i64 tx1.life, .int .i64 tx1.num, .int .i64 6, .int .i64 0, .int .i64 0, .int .i64 0, .slice fA 0 fc, .bool false, .bool false] 113)) := by repeat (with_reducible first | assumption | exact jb _ _ | refine Below.al ?_ _ | refine Below.drew ?_ | apply Below.st1)
  have HN6 := jh ((HN5.out.clk h2 hck hO).ext hbw)
  have HM6 := jh ((HM5.out.only hO (fun k h h' e => by have e' : k = wa.heap.size := e; omega)).ext hbw)
  have HZ6 := jh (Blk.new wg 113 [.slice rA 0 rc, .int .i64 tx1.node, .int .i64 tx1.life, .int .i64 tx1.num, .int .i64 6, .int .i64 0, .int .i64 0, .int .i64 0, .slice fA 0 fc, .bool false, .bool false])
  clear hck hO hbw HN5 HM5 HS
  go_upto_region 14 with fail
  generalize wg.alloc (.cells #[.slice rA 0 rc, .int .i64 tx1.node, .int .i64 tx1.life, .int .i64 tx1.num, .int .i64 6, .int .i64 0, .int .i64 0, .int .i64 0, .slice fA 0 fc, .bool false, .bool false] 113) = wh at *
  have z0 := HZ6.out.cell
  have hlz6 := HZ6.out.lt
  go_upto_region 16 with fail
  clear z0 hlz6 HZ6
  have m0 := HM6.out.m.cell
  have hlm := HM6.out.m.lt
  have hlcur : wc.heap.size < wh.heap.size := HM6.out.x.lt
  have CP := partPrepare_any g wa.heap.size awS (ckR n) tx1 (frB ⟨#[97]⟩) zeroStamp (some ⟨wc.heap.size + 1, 0, none⟩) 1 _ _ wh HN6.out.st aw_fitS (by decide) (fun p hp => by cases hp) HN6.out.ck (ckR_ok n0 n1) HN6.out.ne (fun h => h.2.2 rfl) (fun h => by rcases h with h | h <;> omega) (by omega) (put_row (by show (1 : Nat) ≤ _; omega) HM6.out.x HM6.out.p) ⟨Nat.le_refl _, by decide⟩ ⟨by decide, by show (0 : Nat) ≤ _; omega, fun p hp => by rcases List.mem_singleton.1 hp with rfl; decide⟩ tx1_fit HN6.out.tabs
  rw [drift_prep] at CP
  unfold PlanOut ptrV prepV planV at CP
  dsimp only [List.length_cons, List.length_nil] at CP
  go_wp2_with fail
  refine CP.mono ?_
  clear CP m0 hlm
  rintro e wp ⟨⟨rA, rc, fA, fc, rfl, hr1, hrow, hf1, _⟩, hck, hO⟩
  have HNp := jh (HN6.out.clk h2 hck hO)
  have HMp := jh (HM6.out.only hO (fun k h h' e => by have e' : k = wa.heap.size := e; omega))
  have hzp := hO.size
  have HRP := jh (ja hr1 hrow)
  have hrc : 1 ≤ rc := hr1.1
  have hrc2 : rc ≤ 9223372036854775807 := hr1.2
  clear hck hO hr1 hrow hf1 HN6 HM6
  have hlwc := HMp.out.x.lt
  go_upto_region 17 with fail
  have hbz : Below wp.heap.size wp (wp.alloc (.cells #[.slice rA 1 rc, .int .i64 tx1.node, .int .i64 tx1.life, .int .i64 tx1.num, .int .i64 0, .int .i64 (nxt n).wall, .int .i64 (nxt n).logic, .int .i64 (nxt n).node, .slice fA 1 fc, .bool false, .bool false] 113)) := by repeat (with_reducible first | assumption | exact jb _ _ | refine Below.al ?_ _ | refine Below.drew ?_ | apply Below.st1)
  have HNz := jh (HNp.out.ext hbz)
  have HMz := jh (HMp.out.ext hbz)
  have HRz := jh (ja HRP.out.1 (HRP.out.2.ext hbz))
  have HZ := jh (Blk.new wp 113 [.slice rA 1 rc, .int .i64 tx1.node, .int .i64 tx1.life, .int .i64 tx1.num, .int .i64 0, .int .i64 (nxt n).wall, .int .i64 (nxt n).logic, .int .i64 (nxt n).node, .slice fA 1 fc, .bool false, .bool false])
  clear hbz HNp HMp HRP
  generalize wp.alloc (.cells #[.slice rA 1 rc, .int .i64 tx1.node, .int .i64 tx1.life, .int .i64 tx1.num, .int .i64 0, .int .i64 (nxt n).wall, .int .i64 (nxt n).logic, .int .i64 (nxt n).node, .slice fA 1 fc, .bool false, .bool false] 113) = wz at *
  have p0 := HZ.out.cell 0
  have p4 := HZ.out.cell 4
  simp only [List.getElem?_cons_zero, List.getElem?_cons_succ] at p0 p4
  have hlz := HZ.out.lt
  obtain ⟨bb, o, nA, nc, pA, pc, sA, sc, rfl, hbw, hrec, hcs⟩ := recs_at HRz.out.2 (k := 0) rfl
  rw [Nat.zero_mul, Nat.add_zero] at hcs
  have HCS := jh hcs
  have CA1 := applyK_4 g awS (prepR tx1 (frB ⟨#[97]⟩) (nxt n)) nA pA sA nc pc sc _ _ wz HNz.out.st (fun h => h.2.1 rfl) aw_fitS hrec (fun h => by rcases h with (h | h) | h <;> omega) prep_fair HNz.out.tabs (by omega) rfl
  rw [drift_apply (nxt_sound n0 n1)] at CA1
  unfold StOut ptrV at CA1
  dsimp only at CA1
  clear hrec hcs
  go_wp2_with (first
   | ((with_reducible refine wpList_load_atG rfl rfl ?_ HCS.out Tryz.underlying46 rfl (by kernel_rfl) ?_); · rfl)
   | fail)
  refine CA1.mono ?_
  clear CA1 p0 p4
  rintro e wy ⟨rfl, hst, hO⟩
  have HNy := jh (HNz.out.stt h2 hst hO)
  have HMy := jh (HMz.out.only hO (fun k h h' e => by have e' : k = g := e; omega))
  have HZy := jh (HZ.out.only hO (fun e => by have e' : wp.heap.size = g := e; omega))
  have hzy := hO.size
  clear hst hO HNz HMz HRz HCS HZ
  have m0 := HMy.out.m.cell
  have hlm := HMy.out.m.lt
  have hok : (Clk.Ok ⟨n, nxt n⟩) := by have h := tick_ok (ckR_ok n0 n1); rw [tick_ck] at h; exact h
  have CD := partDecide_any g wa.heap.size (heldS (nxt n)) ⟨n, nxt n⟩ tx1 true ⟨wall, 0, 2⟩ _ wy HNy.out.st (held_fit (nxt_sound n0 n1)) (by show (1 : Nat) ≤ _; decide) (fun p hp => by rcases List.mem_singleton.1 hp with rfl; rfl) HNy.out.ck hok HNy.out.ne (fun h => h.2.2 rfl) tx1_fit ⟨⟨by show _ ≤ wall; omega, by show wall ≤ _; omega⟩, i64_small 0 (by omega), i64_small 2 (by omega)⟩
  clear hok
  rw [(drift_dec n0 n1 ⟨w0, w1⟩).1 (by omega)] at CD
  unfold DecOut ptrV decV planV zeroTx zeroStamp at CD
  dsimp only [List.length_cons, List.length_nil] at CD
  go_wp2_with fail
  refine CD.mono ?_
  clear CD m0 hlm
  rintro e wx ⟨⟨rB, rcB, rfl, _, _⟩, hck, hO⟩
  have HNx := jh (HNy.out.clk h2 hck hO)
  have hZx := HZy.out.only hO (fun e => by have e' : wp.heap.size = wa.heap.size := e; omega)
  have p5 := hZx.cell 5
  simp only [List.getElem?_cons_zero, List.getElem?_cons_succ] at p5
  have hlz := hZx.lt
  have CW := CA.out
  clear hck hO hZx HNy HMy HZy
  go_wp2_with fail
  refine (CW _ (HNx.out.below.al _)).mono ?_
  rintro e w9 ⟨rfl, hb9⟩
  go_wp2_with fail
  go_ret
  exact ⟨rfl, (HNx.out.below.al _).tr hb9⟩
 ·have hA1 : decide (n + 1000 < wall) = false := jd hA
  have m0 := HM.out.m.cell
  have hlm := HM.out.m.lt
  have hlcur : wc.heap.size < wd.heap.size := HM.out.x.lt
  have CP := partPrepare_any g wa.heap.size awS (ckR n) tx1 (frB ⟨#[97]⟩) zeroStamp (some ⟨wc.heap.size + 1, 0, none⟩) 1 _ _ wd HN4.out.st aw_fitS (by decide) (fun p hp => by cases hp) HN4.out.ck (ckR_ok n0 n1) HN4.out.ne (fun h => h.2.2 rfl) (fun h => by rcases h with h | h <;> omega) (by omega) (put_row (by show (1 : Nat) ≤ _; omega) HM.out.x HM.out.p) ⟨Nat.le_refl _, by decide⟩ ⟨by decide, by show (0 : Nat) ≤ _; omega, fun p hp => by rcases List.mem_singleton.1 hp with rfl; decide⟩ tx1_fit HN4.out.tabs
  rw [drift_prep] at CP
  unfold PlanOut ptrV prepV planV at CP
  dsimp only [List.length_cons, List.length_nil] at CP
  go_wp2_with fail
  refine CP.mono ?_
  clear CP m0 hlm
  rintro e wp ⟨⟨rA, rc, fA, fc, rfl, hr1, hrow, hf1, _⟩, hck, hO⟩
  have HNp := jh (HN4.out.clk h2 hck hO)
  have HMp := jh (HM.out.only hO (fun k h h' e => by have e' : k = wa.heap.size := e; omega))
  have hzp := hO.size
  have HRP := jh (ja hr1 hrow)
  have hrc : 1 ≤ rc := hr1.1
  have hrc2 : rc ≤ 9223372036854775807 := hr1.2
  clear hck hO hr1 hrow hf1 HN4 HM
  have hlwc := HMp.out.x.lt
  go_upto_region 17 with fail
  have hbz : Below wp.heap.size wp (wp.alloc (.cells #[.slice rA 1 rc, .int .i64 tx1.node, .int .i64 tx1.life, .int .i64 tx1.num, .int .i64 0, .int .i64 (nxt n).wall, .int .i64 (nxt n).logic, .int .i64 (nxt n).node, .slice fA 1 fc, .bool false, .bool false] 113)) := by repeat (with_reducible first | assumption | exact jb _ _ | refine Below.al ?_ _ | refine Below.drew ?_ | apply Below.st1)
  have HNz := jh (HNp.out.ext hbz)
  have HMz := jh (HMp.out.ext hbz)
  have HRz := jh (ja HRP.out.1 (HRP.out.2.ext hbz))
  have HZ := jh (Blk.new wp 113 [.slice rA 1 rc, .int .i64 tx1.node, .int .i64 tx1.life, .int .i64 tx1.num, .int .i64 0, .int .i64 (nxt n).wall, .int .i64 (nxt n).logic, .int .i64 (nxt n).node, .slice fA 1 fc, .bool false, .bool false])
  clear hbz HNp HMp HRP
  generalize wp.alloc (.cells #[.slice rA 1 rc, .int .i64 tx1.node, .int .i64 tx1.life, .int .i64 tx1.num, .int .i64 0, .int .i64 (nxt n).wall, .int .i64 (nxt n).logic, .int .i64 (nxt n).node, .slice fA 1 fc, .bool false, .bool false] 113) = wz at *
  have p0 := HZ.out.cell 0
  have p4 := HZ.out.cell 4
  simp only [List.getElem?_cons_zero, List.getElem?_cons_succ] at p0 p4
  have hlz := HZ.out.lt
  obtain ⟨bb, o, nA, nc, pA, pc, sA, sc, rfl, hbw, hrec, hcs⟩ := recs_at HRz.out.2 (k := 0) rfl
  rw [Nat.zero_mul, Nat.add_zero] at hcs
  have HCS := jh hcs
  have CA1 := applyK_4 g awS (prepR tx1 (frB ⟨#[97]⟩) (nxt n)) nA pA sA nc pc sc _ _ wz HNz.out.st (fun h => h.2.1 rfl) aw_fitS hrec (fun h => by rcases h with (h | h) | h <;> omega) prep_fair HNz.out.tabs (by omega) rfl
  rw [drift_apply (nxt_sound n0 n1)] at CA1
  unfold StOut ptrV at CA1
  dsimp only at CA1
  clear hrec hcs
  go_wp2_with (first
   | ((with_reducible refine wpList_load_atG rfl rfl ?_ HCS.out Tryz.underlying46 rfl (by kernel_rfl) ?_); · rfl)
   | fail)
  refine CA1.mono ?_
  clear CA1 p0 p4
  rintro e wy ⟨rfl, hst, hO⟩
  have HNy := jh (HNz.out.stt h2 hst hO)
  have HMy := jh (HMz.out.only hO (fun k h h' e => by have e' : k = g := e; omega))
  have HZy := jh (HZ.out.only hO (fun e => by have e' : wp.heap.size = g := e; omega))
  have hzy := hO.size
  clear hst hO HNz HMz HRz HCS HZ
  have m0 := HMy.out.m.cell
  have hlm := HMy.out.m.lt
  have hok : (Clk.Ok ⟨n, nxt n⟩) := by have h := tick_ok (ckR_ok n0 n1); rw [tick_ck] at h; exact h
  have CD := partDecide_any g wa.heap.size (heldS (nxt n)) ⟨n, nxt n⟩ tx1 true ⟨wall, 0, 2⟩ _ wy HNy.out.st (held_fit (nxt_sound n0 n1)) (by show (1 : Nat) ≤ _; decide) (fun p hp => by rcases List.mem_singleton.1 hp with rfl; rfl) HNy.out.ck hok HNy.out.ne (fun h => h.2.2 rfl) tx1_fit ⟨⟨by show _ ≤ wall; omega, by show wall ≤ _; omega⟩, i64_small 0 (by omega), i64_small 2 (by omega)⟩
  clear hok
  obtain ⟨c9, hdd⟩ := (drift_dec n0 n1 ⟨w0, w1⟩).2 (by omega)
  rw [hdd] at CD
  clear hdd
  unfold DecOut ptrV decV planV zeroTx zeroStamp at CD
  dsimp only [List.length_cons, List.length_nil] at CD
  go_wp2_with fail
  refine CD.mono ?_
  clear CD m0 hlm
  rintro e wx ⟨⟨rB, rcB, rfl, _, _⟩, hck, hO⟩
  have HNx := jh (HNy.out.clk h2 hck hO)
  have hZx := HZy.out.only hO (fun e => by have e' : wp.heap.size = wa.heap.size := e; omega)
  have p5 := hZx.cell 5
  simp only [List.getElem?_cons_zero, List.getElem?_cons_succ] at p5
  have hlz := hZx.lt
  have CW := CA.out
  clear hck hO hZx HNy HMy HZy
  go_wp2_with fail
  refine (CW _ (HNx.out.below.al _)).mono ?_
  rintro e w9 ⟨rfl, hb9⟩
  go_wp2_with fail
  go_ret
  exact ⟨rfl, (HNx.out.below.al _).tr hb9⟩
end Go.Proofs.YtcmjgghkmdbphaaGreatDoor
