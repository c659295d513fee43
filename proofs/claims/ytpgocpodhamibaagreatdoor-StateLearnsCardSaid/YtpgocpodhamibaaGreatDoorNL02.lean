/- state: has, busy. An owned slice, one cell of one element set; a held batch in memory of its own. Look-ups in drawn regions; what is asked of a state; state.prepare. What the invariant of a state give -/
import Derived.Test.YtpgocpodhamibaaGreatDoorNK07
import Derived.Test.YtpgocpodhamibaaGreatDoorNK06
import Derived.Test.YtpgocpodhamibaaGreatDoorNK05
import Derived.Test.YtpgocpodhamibaaGreatDoorNK02
import Derived.Test.YtpgocpodhamibaaGreatDoorNL01
import Derived.Test.YtpgocpodhamibaaGreatDoorNK10
import Derived.Test.YtpgocpodhamibaaGreatDoorNK09
import Derived.Test.YtpgocpodhamibaaGreatDoorNK11
namespace Go.Proofs.YtpgocpodhamibaaGreatDoor
open Go.RowKit
set_option maxHeartbeats 800000 in
theorem has_any (r : Range) (h : Int) (w : World) : Calls Tryz.prog 111 #[r.val, .int .i64 h] w fun e w' => e = .returned (.bool (r.has h)) ∧ Below w.heap.size w w' := by
 unfold Range.val
 go_enter Tryz.func111, Tryz.ntmps111
 go_wp2
 all_goals
  go_ret
  refine ⟨ret_bool ?_, by repeat (with_reducible first | assumption | exact jb _ _ | refine Below.al ?_ _ | refine Below.drew ?_ | apply Below.st1)⟩
  go_light
  unfold Range.has
  rw [Bool.eq_iff_iff]
  simp at *
  omega
set_option maxHeartbeats 800000 in
theorem busyAt_any (n : Str) (b : Nat) (x : Put) (A : Option Addr) (c : Nat) (w : World) (hb : w.cell? ⟨b, 0, none⟩ = some (.string n)) : Calls Tryz.prog 190 #[.agg #[.string x.stream, .int .i64 x.expect, .slice A x.data.length c], .pointer (some ⟨b, 0, none⟩)] w fun e w' => e = .returned (.bool (decide (x.stream = n))) ∧ Below w.heap.size w w' := by
 have hb' : (w.alloc (.cells #[.string x.stream, .int .i64 x.expect, .slice A x.data.length c] 29)).cell? ⟨b, 0, none⟩ = some (.string n) := (Below.cell ((jb _ w).al _) (p := ⟨b, 0, none⟩) (lt_of_cell hb)).trans hb
 have heq : (x.stream.toList == n.toList) = decide (x.stream = n) := by
  by_cases h : x.stream = n
  ·subst h; simp
  ·rw [str_ne h, decide_eq_false h]
 have HE := jh heq
 clear heq
 go_enter Tryz.func190, Tryz.ntmps190
 go_wp2_with fail
 go_ret
 exact ⟨ret_bool HE.out, (jb _ _).al _⟩
theorem enters_busy : ∀ args w, (callFunc 190 args).run Tryz.prog w = .ok (.enter 190 args) w := enters_of Tryz.func190 (by kernel_rfl) rfl
def Held.cellsV (h : Held) (pA : Option Addr) (pc : Nat) (fA : Option Addr) (fc : Nat) : List Value :=
 [.int .i64 h.tx.node, .int .i64 h.tx.life, .int .i64 h.tx.num, .string h.batch.key, .slice pA h.batch.puts.length pc, .int .i64 h.stamp.wall, .int .i64 h.stamp.logic, .int .i64 h.stamp.node, .slice fA h.firsts.length fc]
theorem held_rep {w : World} {P : Nat → Prop} {cs : List Value} {h : Held} : HeldR.rep w P cs h ↔ ∃ pA pc fA fc, cs = h.cellsV pA pc fA fc ∧ h.tx.fit ∧ sfit h.batch.key ∧ h.stamp.fit ∧ (h.batch.puts.length ≤ pc ∧ pc ≤ 9223372036854775807 ∧ PutR.Row w P pA h.batch.puts) ∧ (h.firsts.length ≤ fc ∧ fc ≤ 9223372036854775807 ∧ IntR.Row w P fA h.firsts) := by
 constructor
 ·rintro ⟨c1, c2, rfl, htx, c3, c4, rfl, hb, c5, c6, rfl, hst, ⟨fA, fc, rfl, f1, f2, f3⟩⟩
  obtain ⟨rfl, h1⟩ := tx_rep.1 htx
  obtain ⟨pA, pc, rfl, b1, b2, b3, b4⟩ := batch_rep.1 hb
  obtain ⟨rfl, h2⟩ := stamp_rep.1 hst
  exact ⟨pA, pc, fA, fc, rfl, h1, b1, h2, ⟨b2, b3, b4⟩, ⟨f1, f2, f3⟩⟩
 ·rintro ⟨pA, pc, fA, fc, rfl, h1, b1, h2, ⟨b2, b3, b4⟩, ⟨f1, f2, f3⟩⟩
  exact ⟨_, _, rfl, tx_rep.2 ⟨rfl, h1⟩, _, _, rfl, batch_rep.2 ⟨pA, pc, rfl, b1, b2, b3, b4⟩, _, [_], rfl, stamp_rep.2 ⟨rfl, h2⟩, fA, fc, rfl, f1, f2, f3⟩
theorem eraseIdx_mem {α : Type} {l : List α} {i : Nat} {x y : α} (h : l[i]? = some x) (hy : y ∈ l) : y = x ∨ y ∈ l.eraseIdx i := by
 induction l generalizing i with
 | nil => simp at hy
 | cons a l ih =>
   cases i with
   | zero =>
     simp at h; subst h
     rcases List.mem_cons.1 hy with rfl | hy
     ·exact .inl rfl
     ·exact .inr (by simpa using hy)
   | succ i =>
     simp at h
     rcases List.mem_cons.1 hy with rfl | hy
     ·exact .inr (by simp)
     ·rcases ih h hy with e | e
      ·exact .inl e
      ·exact .inr (by simp [e])
def HeldFair (s : St) : Prop := ∀ x ∈ s.held, x.2.batch.puts.length ≤ 1000000
theorem held_same {w w' : World} {P : Nat → Prop} {LA : List (Tx × (Held × List Value))} (h : ∀ p ∈ LA, HeldR.rep w P p.2.2 p.2.1) (hb : Below w.heap.size w w') : ∀ p ∈ LA, HeldR.rep w' P p.2.2 p.2.1 := fun p hp => HeldR.same (h p hp) (Same.of_below hb)
theorem any_erase {α : Type} {l left : List α} {q : α → Bool} {i : Nat} {x : α} (h : l.any q = left.any q) (hi : left[i]? = some x) (hx : q x = false) : l.any q = (left.eraseIdx i).any q := by
 rw [h]
 rw [Bool.eq_iff_iff, List.any_eq_true, List.any_eq_true]
 constructor
 ·rintro ⟨y, hy, hq⟩
  rcases eraseIdx_mem hi hy with rfl | hy
  ·rw [hx] at hq; cases hq
  ·exact ⟨y, hy, hq⟩
 ·rintro ⟨y, hy, hq⟩
  exact ⟨y, List.mem_of_mem_eraseIdx hy, hq⟩
theorem wpList_next_held {P : Program} {ops : Array Oper} {rest : List Oper} {o : Oper} {a : Act} {Q : Exit → Act → World → Prop} {it m : Nat} {w : World} {R : Nat → Prop} {left : List (Tx × (Held × List Value))}
 (hg : o.guard = none) (ito : Operand) (hop : o.op = Op.next ito false) (hit : a.eval ito = .pointer (some ⟨it, 0, none⟩)) (h : IterAt txE w it m (left.map fun p => (p.1, aggV p.2.2))) (hr : ∀ p ∈ left, HeldR.rep w R p.2.2 p.2.1)
 (hDone : left = [] → wpList P ops Q rest (a.put o.dst (.tuple #[.bool false])) w)
 (hMore : ∀ (i : Nat) (t : Tx) (h : Held) (pA fA : Option Addr) (pc fc : Nat) (w' : World), left[i]? = some (t, (h, h.cellsV pA pc fA fc)) → (h.batch.puts.length ≤ pc ∧ pc ≤ 9223372036854775807 ∧ PutR.Row w R pA h.batch.puts) →
  IterAt txE w' it m ((left.eraseIdx i).map fun p => (p.1, aggV p.2.2)) → Only (· = it) w w' → w'.heap.size = w.heap.size →
  (Instr.entry (.pointer (some ⟨it, 0, none⟩))).run P w' = .ok (.tuple #[txE t, .agg #[.int .i64 h.tx.node, .int .i64 h.tx.life, .int .i64 h.tx.num, .string h.batch.key, .slice pA h.batch.puts.length pc, .int .i64 h.stamp.wall, .int .i64 h.stamp.logic, .int .i64 h.stamp.node, .slice fA h.firsts.length fc]]) w' → wpList P ops Q rest (a.put o.dst (.tuple #[.bool true, txE t, .agg #[.int .i64 h.tx.node, .int .i64 h.tx.life, .int .i64 h.tx.num, .string h.batch.key, .slice pA h.batch.puts.length pc, .int .i64 h.stamp.wall, .int .i64 h.stamp.logic, .int .i64 h.stamp.node, .slice fA h.firsts.length fc]])) w') : wpList P ops Q (o :: rest) a w := by
 refine wpList_next_map hg ito hop hit h (fun h0 => hDone (by simpa using h0)) (fun i p w3 hp hit3 hO3 hz3 hen => ?_)
 rw [List.getElem?_map] at hp
 obtain ⟨q, hq, rfl⟩ := Option.map_eq_some_iff.1 hp
 obtain ⟨t, hd, cs⟩ := q
 have hh := hr _ (List.mem_of_getElem? hq)
 dsimp only at hh
 obtain ⟨pA, pc, fA, fc, rfl, h1, h2, h3, h4, h5⟩ := held_rep.1 hh
 rw [← map_erase] at hit3
 exact hMore i t hd pA fA pc fc w3 hq h4 hit3 hO3 hz3 (hen w3 rfl rfl)
set_option maxRecDepth 20000 in
set_option maxHeartbeats 3200000 in
theorem busy_any (g : Nat) (s : St) (n : Str) (P : Nat → Prop) (w : World) (h : StAt w P g s) (_hl : s.frozen.length ≤ 1000000) (hp : HeldFair s) (hn : sfit n) : Calls Tryz.prog 102 #[ptrV g, .string n] w fun e w' => e = .returned (.bool (busyS s n)) ∧ Below w.heap.size w w' := by
 obtain ⟨v, hB, hI⟩ := h
 have hb0 := (jb w.heap.size w).al (.cells #[.string n] 9)
 have hB0 := hB.alloc (.cells #[.string n] 9)
 have BN := Blk.new w 9 [.string n]
 have CH := fun W => hashI_any n W hn
 obtain ⟨Af, cf, hv, _, _, hrowf⟩ := hI.frozen
 obtain hvf : v.frozen = .slice Af s.frozen.length cf := by injection hv
 have b9 : (w.alloc (.cells #[.string n] 9)).cell? ⟨g, 9, none⟩ = some v.frozen := hB0.cell 9
 rw [hvf] at b9
 have CHS := jh (fun r h W => has_any r h W)
 unfold Range.val at CHS
 have HR := jh (hrowf.mono (Q := fun g => g < w.heap.size) fun g _ h => h)
 have HI := jh (ja hI hB)
 have HHP := jh hp
 have hgl := hB.lt
 have HBS := jh (show busyS s n = (s.frozen.any (fun f => f.range.has (hashS n)) || s.held.any (fun x => x.2.batch.puts.any fun p => decide (p.stream = n))) from rfl)
 clear hI hv hvf hrowf hB hp
 have HN0 := jh hn
 clear hn
 unfold ptrV
 go_enter Tryz.func102, Tryz.ntmps102
 go_wp2_with fail
 refine (CH _).mono ?_
 clear CH
 rintro e w' ⟨rfl, rfl⟩
 go_wp2_with fail
 clear b9
 have hz0 : (w.alloc (.cells #[.string n] 9)).heap.size = w.heap.size + 1 := by simp
 generalize (w.alloc (.cells #[.string n] 9)) = w0 at *
 go_loopw [17] (fun i wr => ∃ k : Nat, k ≤ s.frozen.length ∧ i = .int .i64 k ∧ (s.frozen.any (fun f => f.range.has (hashS n))) = ((s.frozen.drop k).any fun f => f.range.has (hashS n)) ∧ Below w0.heap.size w0 wr) (fun i _ => s.frozen.length - (intOf i).toNat)
 case atStart => exact ⟨0, Nat.zero_le _, rfl, rfl, jb _ _⟩
 case round =>
  obtain ⟨k, hk, rfl, hno, hbl⟩ := hrel
  have HN := jh hno; clear hno
  by_cases hlt : k < s.frozen.length
  ·have hlk := List.getElem?_eq_getElem hlt
   have hdr := List.drop_eq_getElem_cons hlt
   obtain ⟨bb, o, cs, rfl, hP, hbw, hrep, hcs⟩ := (HR.out.ext (hb0.trans (hbl.mono hb0.size))).at_ hlk
   generalize s.frozen[k] = x at hlk hrep hdr
   obtain ⟨nA, nc, pA, pc, sA, sc, rfl, hat⟩ := rec_rep.1 hrep
   unfold Rec.cells at hcs
   rw [RecR_size] at hcs
   have HCS := jh hcs
   have HDR := jh hdr
   have hlt' : (k : Int) < s.frozen.length := by omega
   clear hcs hrep hlk hat hP hbw hdr
   have hbx := hbl.tr ((jb wr.heap.size wr).al (.cells (x.cells nA nc pA pc sA sc).toArray 43))
   have BX := Blk.new wr 43 (x.cells nA nc pA pc sA sc)
   unfold Rec.cells at BX hbx
   go_upto_region 5 with (first
    | ((with_reducible refine wpList_load_at rfl rfl ?_ HCS.out Tryz.underlying43 rfl (by kernel_rfl) ?_); · rfl)
    | (refine wpList_store_new rfl rfl rfl rfl rfl (by kernel_rfl) rfl rfl ?_)
    | fail)
   generalize hw5 : wr.alloc (.cells #[.int .i64 x.kind, .int .i64 x.n, .int .i64 x.to, .bool x.yes, .int .i64 x.stamp.wall, .int .i64 x.stamp.logic, .int .i64 x.stamp.node, .int .i64 x.tx.node, .int .i64 x.tx.life, .int .i64 x.tx.num, .slice nA x.nodes.length nc, .string x.batch.key, .slice pA x.batch.puts.length pc, .int .i64 x.range.first, .int .i64 x.range.last, .int .i64 x.range.owner, .int .i64 x.range.epoch, .slice sA x.streams.length sc] 43) = w5 at *
   have c13 : w5.cell? ⟨wr.heap.size, 13, none⟩ = some (.int .i64 x.range.first) := BX.cell 13
   have c14 : w5.cell? ⟨wr.heap.size, 14, none⟩ = some (.int .i64 x.range.last) := BX.cell 14
   have c15 : w5.cell? ⟨wr.heap.size, 15, none⟩ = some (.int .i64 x.range.owner) := BX.cell 15
   have c16 : w5.cell? ⟨wr.heap.size, 16, none⟩ = some (.int .i64 x.range.epoch) := BX.cell 16
   clear hw5 BX
   go_wp2_with fail
   refine (CHS.out x.range (hashS n) w5).mono ?_
   clear c13 c14 c15 c16
   cases hq : x.range.has (hashS n)
   ·have HQ := jh hq; clear hq
    rintro e w6 ⟨rfl, hb6⟩
    have hb6' := hbx.tr hb6
    go_wp2_with fail
    go_round
    case rel => exact ⟨k + 1, by omega, by go_num, by rw [HN.out, HDR.out, List.any_cons, HQ.out]; rfl, hb6'⟩
    case measure => simp [intOf]; omega
   ·have HQ := jh hq; clear hq
    rintro e w6 ⟨rfl, hb6⟩
    have hb6' := hbx.tr hb6
    go_wp2_with fail
    go_ret
    exact ⟨ret_bool (by rw [HBS.out, HN.out, HDR.out, List.any_cons, HQ.out]; simp), hb0.trans (hb6'.mono hb0.size)⟩
  ·have hkn : k = s.frozen.length := by omega
   subst hkn
   have HF0 := jh (show (s.frozen.any fun f => f.range.has (hashS n)) = false from by rw [HN.out, List.drop_length]; rfl)
   have hlo := hb0.trans (hbl.mono hb0.size)
   have b6 : wr.cell? ⟨g, 6, none⟩ = some v.held := (HI.out.2.ext hlo).cell 6
   have BNr := jh (BN.ext hbl)
   obtain ⟨hnd, hh⟩ := HI.out.1.held
   have HLO := jh hlo
   clear BN hnd hk hlo hbl
   rcases hh with ⟨hv, hnil⟩ | ⟨m, LA, hv, hPm, hMA, hrep, hl⟩
   ·rw [hv] at b6
    go_wp2_with (first
     | (at_range; refine wpList_range_nil rfl (.tmp 29) _ rfl Tryz.underlying137 rfl ?_; intro w2 hit hb2 hz2)
     | fail)
    go_frame
    go_loopw [31] (fun _ wq => wq = w2) (fun _ _ => 0)
    case atStart => rfl
    case round =>
     obtain rfl := hrel
     go_wp2_with (first
      | (at_next; refine wpList_next_nil rfl (.tmp 30) rfl rfl hit ?_)
      | fail)
     go_ret
     exact ⟨ret_bool (by rw [HBS.out, HF0.out, hnil]; rfl), HLO.out.tr hb2⟩
   ·rw [hv] at b6
    have hMA' := hMA.ext HLO.out
    have HRP := jh (show ∀ p ∈ LA, HeldR.rep wr (fun g => P g ∧ g < wr.heap.size) p.2.2 p.2.1 from fun p hp => HeldR.mono (held_same hrep HLO.out p hp) (fun g h1 h2 => ⟨h1, h2⟩))
    have HLL := jh (show (s.held.any fun x => x.2.batch.puts.any fun p => decide (p.stream = n)) = LA.any fun p => p.2.1.batch.puts.any fun x => decide (x.stream = n) from by rw [hl, List.any_map]; rfl)
    clear hrep hl hMA hv hPm
    go_wp2_with (first
     | (at_range; refine wpList_range_map rfl (.tmp 29) _ rfl Tryz.underlying137 rfl hMA' ?_; intro w2 hit hb2 hz2)
     | fail)
    try go_frame
    clear b6 hMA'
    generalize hwo : wr = wo at *
    clear hwo
    have hzo : wo.heap.size = wo.heap.size := rfl
    go_loopw [31] (fun _ wq => ∃ left : List (Tx × (Held × List Value)), IterAt txE wq wo.heap.size m (left.map fun p => (p.1, aggV p.2.2)) ∧ (∀ p ∈ left, p ∈ LA) ∧ (LA.any fun p => p.2.1.batch.puts.any fun x => decide (x.stream = n)) = (left.any fun p => p.2.1.batch.puts.any fun x => decide (x.stream = n)) ∧ Below wo.heap.size wo wq) (fun _ wq => leftLen wq wo.heap.size m)
    case atStart => exact ⟨LA, hit, fun _ h => h, rfl, hb2⟩
    case round =>
     obtain ⟨left, hiq, hsub, hany, hbq⟩ := hrel
     have HANY := jh hany
     have HSUB := jh hsub
     have held_rep_at : ∀ {p : Tx × (Held × List Value)}, p ∈ left → HeldR.rep wr (fun g => P g ∧ g < wo.heap.size) p.2.2 p.2.1 := fun {p} hp => HeldR.same (HRP.out p (hsub p hp)) (Same.of_belowB hbq fun g hg => hg.2)
     clear hany hsub hit
     go_wp2_with (first
      | (at_next; refine wpList_next_held rfl (.tmp 30) rfl rfl hiq (fun p hp => held_rep_at hp) (fun h0 => ?_) (fun i t h pA fA pc fc w3 hp hrow hit3 hO3 hz3 hen => ?_))
      | fail)
     ·go_ret
      exact ⟨ret_bool (by rw [HBS.out, HF0.out, HLL.out, HANY.out, h0]; rfl), HLO.out.tr hbq⟩
     ·have hb3 : Below wo.heap.size wo w3 := hbq.trans (hO3.low (fun g hg => by rw [hg]; omega) hbq.size)
      have hb4 := hb3.al (.cells #[.int .i64 h.tx.node, .int .i64 h.tx.life, .int .i64 h.tx.num, .string h.batch.key, .slice pA h.batch.puts.length pc, .int .i64 h.stamp.wall, .int .i64 h.stamp.logic, .int .i64 h.stamp.node, .slice fA h.firsts.length fc] 162)
      have hrow4 := (hrow.2.2.same (Same.of_only hO3 fun g hg e => by have e' : g = wo.heap.size := e; have := hg.2; omega) (by omega)).ext ((jb w3.heap.size w3).al (.cells #[.int .i64 h.tx.node, .int .i64 h.tx.life, .int .i64 h.tx.num, .string h.batch.key, .slice pA h.batch.puts.length pc, .int .i64 h.stamp.wall, .int .i64 h.stamp.logic, .int .i64 h.stamp.node, .slice fA h.firsts.length fc] 162))
      have BN4 := BNr.out.ext hb4
      have hit4 := hit3.ext ((jb w3.heap.size w3).al (.cells #[.int .i64 h.tx.node, .int .i64 h.tx.life, .int .i64 h.tx.num, .string h.batch.key, .slice pA h.batch.puts.length pc, .int .i64 h.stamp.wall, .int .i64 h.stamp.logic, .int .i64 h.stamp.node, .slice fA h.firsts.length fc] 162))
      have hlen4 : (left.eraseIdx i).length < left.length := by
       have := (List.getElem?_eq_some_iff.1 hp).1
       rw [List.length_eraseIdx, if_pos this]; omega
      have hleft := hiq.len
      have C := hasF_Put 190 [.pointer (some ⟨w.heap.size, 0, none⟩)] (fun x => decide (x.stream = n)) enters_busy pA pc h.batch.puts _ (w3.alloc (.cells #[.int .i64 h.tx.node, .int .i64 h.tx.life, .int .i64 h.tx.num, .string h.batch.key, .slice pA h.batch.puts.length pc, .int .i64 h.stamp.wall, .int .i64 h.stamp.logic, .int .i64 h.stamp.node, .slice fA h.firsts.length fc] 162)) hrow4 (by have := hrow.1; have := hrow.2.1; omega) (fun a cs W ha hra hb => by
       obtain ⟨Ax, cx, rfl, _⟩ := put_rep.1 hra
       exact busyAt_any n w.heap.size a Ax cx W ((BN4.ext hb).cell 0))
      have H4 := jh (ja hb4 (ja hit4 (ja hlen4 hleft)))
      have HP := jh hp
      clear hb3 hb4 hrow4 BN4 hit4 hlen4 hleft hen hit3 hO3 hz3 hrow hp hiq held_rep_at
      refine C.mono ?_
      clear C
      cases hq : h.batch.puts.any fun x => decide (x.stream = n)
      ·have HQ := jh hq; clear hq
       rintro e w5 ⟨rfl, hb5⟩
       have hb5' := H4.out.1.tr hb5
       have hit5 := H4.out.2.1.ext hb5
       go_wp2_with fail
       go_round
       case rel => exact ⟨left.eraseIdx i, hit5, fun p hp => HSUB.out p (List.mem_of_mem_eraseIdx hp), any_erase HANY.out HP.out HQ.out, hb5'⟩
       case measure =>
        have h1 := hit5.len
        have h2 := H4.out.2.2.1
        have h3 := H4.out.2.2.2
        simp only [List.length_map] at h1 h3
        omega
      ·have HQ := jh hq; clear hq
       rintro e w5 ⟨rfl, hb5⟩
       have hb5' := H4.out.1.tr hb5
       go_wp2_with fail
       go_ret
       refine ⟨ret_bool ?_, HLO.out.tr hb5'⟩
       rw [HBS.out, HF0.out, HLL.out, Bool.false_or, eq_comm, List.any_eq_true]
       exact ⟨_, HSUB.out _ (List.mem_of_getElem? HP.out), HQ.out⟩
open Go.RowKit
theorem flatten_set {s k j : Nat} {u : Value} : ∀ {css : List (List Value)}, (∀ cs ∈ css, cs.length = s) → ∀ {cs}, css[k]? = some cs → j < s → (css.set k (cs.set j u)).flatten = css.flatten.set (k * s + j) u := by
 induction k with
 | zero =>
   intro css h cs hk hj
   cases css with
   | nil => cases hk
   | cons c r =>
     simp at hk; subst hk
     have := h c (by simp)
     simp only [List.set_cons_zero, List.flatten_cons, Nat.zero_mul, Nat.zero_add]
     rw [List.set_append_left _ _ (by omega)]
 | succ k ih =>
   intro css h cs hk hj
   cases css with
   | nil => cases hk
   | cons c r =>
     simp only [List.getElem?_cons_succ] at hk
     have h1 := h c (by simp)
     simp only [List.set_cons_succ, List.flatten_cons]
     rw [ih (fun cs hc => h cs (by simp [hc])) hk hj, List.set_append_right _ _ (by rw [h1, Nat.succ_mul]; omega)]
     congr 2
     rw [h1, Nat.succ_mul]; omega
section
variable {α : Type} {R : Rep α} {w : World} {B e : Nat} {S : Nat → Prop} {v : Value} {l : List α}
theorem Rep.Own.set_ {k j : Nat} {u : Value} {a a' : α} (h : R.Own w B e S v l) (hk : l[k]? = some a) (hj : j < R.size) (_hu : u.oneCell' = true)
 (hrep : ∀ cs, R.rep w (fun g => S g ∧ some g ≠ v.ownBlock) cs a → R.rep w (fun g => S g ∧ some g ≠ v.ownBlock) (cs.set j u) a') :
 ∃ g c, v = .slice (some ⟨g, 0, none⟩) l.length c ∧ B ≤ g ∧ g < w.heap.size ∧ l.length ≤ c ∧ R.Own (w.setCell ⟨g, k * R.size + j, none⟩ u) B e S v (l.set k a') ∧ w.frozen? ⟨g, k * R.size + j, none⟩ = false ∧ (∃ x, w.cell? ⟨g, k * R.size + j, none⟩ = some x) := by
 obtain ⟨xs, ⟨h1, h2⟩, css, rfl, h3, h4⟩ := h
 have hkl := (List.getElem?_eq_some_iff.1 hk).1
 rcases h2 with ⟨_, h2⟩ | ⟨g, cap, cur, rfl, hB, hg, hn, hc, hs, ht⟩
 ·rw [h2] at hkl; omega
 ·have hgl := (Array.getElem?_eq_some_iff.1 hg).1
  have hsub : ∀ cs ∈ css, cs.length = R.size := fun cs hcs => by
   obtain ⟨i, hi⟩ := List.getElem?_of_mem hcs
   have hil : i < l.length := by have := (List.getElem?_eq_some_iff.1 hi).1; omega
   exact R.len (h4 i cs _ hi (List.getElem?_eq_getElem hil))
  have hkc : k < css.length := by omega
  have hck := List.getElem?_eq_getElem hkc
  have hrk := h4 k _ a hck hk
  have hidx : k * R.size + j < l.length * R.size := by
   have : (k + 1) * R.size ≤ l.length * R.size := Nat.mul_le_mul_right _ hkl
   rw [Nat.succ_mul] at this; omega
  have hcs : l.length * R.size ≤ cap * R.size := Nat.mul_le_mul_right _ hn
  have hin : k * R.size + j < cur.size := by rw [hs]; omega
  have hcell : w.cell? ⟨g, k * R.size + j, none⟩ = some cur[k * R.size + j] := by
   unfold World.cell?
   simp [hg, hin]
  have hB0 : Blk w g e cur.toList := by unfold Blk; simpa using hg
  have hset : (w.setCell ⟨g, k * R.size + j, none⟩ u).heap[g]? = some (.cells (cur.toList.set (k * R.size + j) u).toArray e (0, 0)) := hB0.set_ (k * R.size + j) u
  have hsame : Same (fun k => S k ∧ some k ≠ (Value.slice (some ⟨g, 0, none⟩) l.length cap).ownBlock) w (w.setCell ⟨g, k * R.size + j, none⟩ u) := Same.set_ (fun q => q.2 rfl) u
  refine ⟨g, cap, rfl, hB, hgl, hn, ⟨(css.set k ((css[k]).set j u)).flatten, ⟨?_, ?_⟩, css.set k ((css[k]).set j u), rfl, by simp [h3], fun i cs b hi hb => ?_⟩, ?_, ⟨_, hcell⟩⟩
  ·rw [flatten_set hsub hck hj, List.length_set, h1, List.length_set]
  ·refine .inr ⟨g, cap, (cur.toList.set (k * R.size + j) u).toArray, by rw [List.length_set], hB, hset, by rw [List.length_set]; exact hn, hc, by simp [hs], ?_⟩
   rw [flatten_set hsub hck hj, ← ht, List.length_set]
   show (cur.toList.set _ u).take _ = _
   rw [List.take_set]
  ·by_cases hik : i = k
   ·subst hik
    rw [List.getElem?_set_self hkc] at hi
    rw [List.getElem?_set_self hkl] at hb
    injection hi with hi; injection hb with hb
    subst hi hb
    have := R.same (hrep _ hrk) hsame
    exact this
   ·rw [List.getElem?_set_ne (fun q => hik q.symm)] at hi hb
    have := R.same (h4 i cs b hi hb) hsame
    exact this
  ·unfold World.frozen?
   simp [hg]
theorem Rep.Own.at0 {A : Option Addr} {n c : Nat} (h : R.Own w B e S (.slice A n c) l) (hl : 0 < l.length) : ∃ g, A = some ⟨g, 0, none⟩ ∧ B ≤ g ∧ g < w.heap.size := by
 obtain ⟨xs, ⟨_, h2⟩, _⟩ := h
 rcases h2 with ⟨_, h2⟩ | ⟨g, cap, cur, hv, hB, hg, _⟩
 ·omega
 ·injection hv with hv
  exact ⟨g, hv, hB, (Array.getElem?_eq_some_iff.1 hg).1⟩
end
def MixR (N : Nat) : Rep (Put × Bool) where
 size := 3
 rep w P cs x := PutR.rep w (fun g => P g ∧ (x.2 = true → N ≤ g)) cs x.1
 pos := by decide
 len h := PutR.len h
 one h := PutR.one h
 same h hs := PutR.same h fun g hg hl => hs g hg.1 hl
 mono h hs := PutR.mono h fun g hg hl => ⟨hs g hg.1 hl, hg.2⟩
def flags (l : List Put) (k : Nat) : List (Put × Bool) := (l.take k).map (fun p => (p, true)) ++ (l.drop k).map fun p => (p, false)
theorem flags_len (l : List Put) (k : Nat) : (flags l k).length = l.length := by simp [flags]; omega
theorem flags_at {l : List Put} {k : Nat} (h : k < l.length) : (flags l k)[k]? = some (l[k], false) := by
 unfold flags
 rw [List.getElem?_append_right (by simp; exact Nat.min_le_left _ _)]
 simp [Nat.min_eq_left (Nat.le_of_lt h), h]
theorem flags_set {l : List Put} {k : Nat} (h : k < l.length) : (flags l k).set k (l[k], true) = flags l (k + 1) := by
 unfold flags
 rw [List.drop_eq_getElem_cons h, take_snoc l k h, List.map_append, List.map_cons, List.set_append_right _ _ (by simp; exact Nat.min_le_left _ _)]
 simp [Nat.min_eq_left (Nat.le_of_lt h)]
section
variable {w : World} {B e N : Nat} {S : Nat → Prop} {v : Value} {l : List Put}
theorem MixR.start (h : PutR.Own w B e S v l) : (MixR N).Own w B e S v (flags l 0) := by
 obtain ⟨xs, h1, css, hx, hc, hr⟩ := h
 refine ⟨xs, by rw [flags_len]; exact h1, css, hx, by rw [flags_len]; exact hc, fun i cs a hi ha => ?_⟩
 have : flags l 0 = l.map fun p => (p, false) := by simp [flags]
 rw [this, List.getElem?_map] at ha
 obtain ⟨p, hp, rfl⟩ := Option.map_eq_some_iff.1 ha
 exact PutR.mono (hr i cs p hi hp) fun g hg _ => ⟨hg, fun q => by cases q⟩
theorem MixR.stop_ (h : (MixR N).Own w B e S v (flags l l.length)) : PutR.Own w B e (fun g => S g ∧ N ≤ g) v l := by
 obtain ⟨xs, h1, css, hx, hc, hr⟩ := h
 rw [flags_len] at h1 hc
 refine ⟨xs, h1, css, hx, hc, fun i cs a hi ha => ?_⟩
 have : flags l l.length = l.map fun p => (p, true) := by simp [flags]
 have := hr i cs (a, true) hi (by rw [this, List.getElem?_map, ha]; rfl)
 exact PutR.mono this fun g hg _ => ⟨⟨hg.1.1, hg.2 rfl⟩, hg.1.2⟩
end
def GotHeld (h : Held) (N : Nat) (e : Ending) (w' : World) : Prop := ∃ pA pc fA fc, e = .returned (.agg (h.cellsV pA pc fA fc).toArray) ∧ (h.batch.puts.length ≤ pc ∧ pc ≤ 9223372036854775807 ∧ PutR.Row w' (fun g => N ≤ g) pA h.batch.puts) ∧ (h.firsts.length ≤ fc ∧ fc ≤ 9223372036854775807 ∧ IntR.Row w' (fun g => N ≤ g) fA h.firsts)
def Held.zeros : List Value := [.int .i64 0, .int .i64 0, .int .i64 0, .string ⟨#[]⟩, .slice none 0 0, .int .i64 0, .int .i64 0, .int .i64 0, .slice none 0 0]
set_option maxRecDepth 20000 in
set_option maxHeartbeats 3200000 in
theorem own_any (h : Held) (pA fA : Option Addr) (pc fc : Nat) (Q : Nat → Prop) (w : World) (hrP : PutR.Row w Q pA h.batch.puts) (hrF : IntR.Row w Q fA h.firsts) (hl : h.batch.puts.length ≤ 1000000) (hd : ∀ p ∈ h.batch.puts, p.data.length ≤ 1000000) (hf : h.firsts.length ≤ 1000000) :
 Calls Tryz.prog 121 #[.agg (h.cellsV pA pc fA fc).toArray] w fun e w' => GotHeld h w.heap.size e w' ∧ Below w.heap.size w w' := by
 have hb1 := ((jb w.heap.size w).al (.cells (h.cellsV pA pc fA fc).toArray 162)).al (.cells Held.zeros.toArray 162)
 have B0 := (Blk.new w 162 (h.cellsV pA pc fA fc)).alloc (.cells Held.zeros.toArray 162)
 have B1 := Blk.new1 w (.cells (h.cellsV pA pc fA fc).toArray 162) 162 Held.zeros
 have hs1 : ((w.alloc (.cells (h.cellsV pA pc fA fc).toArray 162)).alloc (.cells Held.zeros.toArray 162)).heap.size = w.heap.size + 2 := by simp
 have HR := jh (ja (hrP.mono (Q := fun g => Q g ∧ g < w.heap.size) fun g a b => ⟨a, b⟩) (ja (hrF.mono (Q := fun g => Q g ∧ g < w.heap.size) fun g a b => ⟨a, b⟩) (ja hl (ja hd hf))))
 clear hrP hrF hl hd hf
 go_enter Tryz.func121, Tryz.ntmps121
 go_upto_region 1 with fail
 refine forget (M := fun W => Code.wp _ _ _ _ W) (fun W => Below w.heap.size w W ∧ Blk W w.heap.size 162 (h.cellsV pA pc fA fc) ∧ Blk W (w.heap.size + 1) 162 Held.zeros ∧ W.heap.size = w.heap.size + 2) ⟨hb1, B0, B1, hs1⟩ ?_
 clear B0 B1 hb1 hs1
 rintro w1 ⟨hb1, B0, B1, hs1⟩
 have C1 := clone_Put pA pc h.batch.puts (fun g => Q g ∧ g < w.heap.size) w1 (HR.out.1.ext hb1) (by have := HR.out.2.2.1; omega)
 unfold GotOwn at C1
 have x4 : w1.cell? ⟨w.heap.size, 4, none⟩ = some (.slice pA h.batch.puts.length pc) := B0.cell 4
 have x4f : w1.frozen? ⟨w.heap.size, 4, none⟩ = false := B0.frozen 4
 have H1 := jh (ja hb1 (ja B0 (ja B1 hs1)))
 clear B0 B1 hb1 hs1
 go_wp2_with fail
 refine C1.mono ?_
 clear C1 x4 x4f
 rintro e w2 ⟨⟨v2, rfl, hv2⟩, hb2⟩
 obtain ⟨A2, c9, rfl, hc2, hc2m⟩ := hv2.form
 have x4 : w2.cell? ⟨w.heap.size, 4, none⟩ = some (.slice pA h.batch.puts.length pc) := (H1.out.2.1.ext hb2).cell 4
 have x4f : w2.frozen? ⟨w.heap.size, 4, none⟩ = false := (H1.out.2.1.ext hb2).frozen 4
 go_upto_region 2 with fail
 have hz1 := H1.out.2.2.2
 have hz2 := hb2.size
 have B3 : Blk (w2.setCell ⟨w.heap.size, 4, none⟩ (.slice A2 h.batch.puts.length c9)) w.heap.size 162 (h.cellsV A2 c9 fA fc) := (H1.out.2.1.ext hb2).set_ 4 (.slice A2 h.batch.puts.length c9)
 have O3 : Only (· = w.heap.size) w2 (w2.setCell ⟨w.heap.size, 4, none⟩ (.slice A2 h.batch.puts.length c9)) := Only.set_ (F := (· = w.heap.size)) rfl _
 have B13 := (H1.out.2.2.1.ext hb2).only O3 (fun e => by have : w.heap.size + 1 = w.heap.size := e; omega)
 have hv3 := (hv2.only O3 (fun g hg e => by have e' : g = w.heap.size := e; omega) (fun g hg e => by have e' : g = w.heap.size := e; have := (hv2.lt g hg).1; omega))
 have hm3 := MixR.start (N := w.heap.size) hv3
 have hw3 : Below w.heap.size w (w2.setCell ⟨w.heap.size, 4, none⟩ (.slice A2 h.batch.puts.length c9)) := (H1.out.1.tr hb2).trans (O3.low (fun g hg => by rw [hg]; omega) (by omega))
 have hrF := HR.out.2.1.ext hw3
 generalize hwo : (w2.setCell ⟨w.heap.size, 4, none⟩ (.slice A2 h.batch.puts.length c9)) = w3 at *
 have hz3 : w3.heap.size = w2.heap.size := by rw [← hwo]; simp
 clear hwo x4 x4f hv2 hv3 hb2 O3
 have x4 : w3.cell? ⟨w.heap.size, 4, none⟩ = some (.slice A2 h.batch.puts.length c9) := B3.cell 4
 have H3 := jh (ja B3 (ja B13 (ja hw3 hrF)))
 have HM3 := jh hm3
 clear B3 B13 hw3 hrF hm3
 go_wp2_with fail
 clear x4
 go_loopw [14] (fun i wr => ∃ k : Nat, k ≤ h.batch.puts.length ∧ i = .int .i64 k ∧ (MixR w.heap.size).Own wr w1.heap.size 29 (fun g => w1.heap.size ≤ g ∨ (Q g ∧ g < w.heap.size)) (.slice A2 h.batch.puts.length c9) (flags h.batch.puts k) ∧ Only (fun g => w1.heap.size ≤ g) w3 wr) (fun i _ => h.batch.puts.length - (intOf i).toNat)
 case atStart => exact ⟨0, Nat.zero_le _, rfl, HM3.out, Only.refl _ _⟩
 case round =>
  obtain ⟨k, hkl, rfl, hm, hO⟩ := hrel
  have hzr := hO.size
  by_cases hlt : k < h.batch.puts.length
  ·have hlk := List.getElem?_eq_getElem hlt
   have hfa := flags_at hlt
   have hfs := flags_set hlt
   have hdk := HR.out.2.2.2.1 _ (List.getElem_mem hlt)
   generalize h.batch.puts[k] = p at hlk hfa hfs hdk
   obtain ⟨g2, rfl, hg2, hg2l⟩ := hm.at0 (by rw [flags_len]; omega)
   obtain ⟨bb, o, cs, hAe, hP, hbw, hrep, hcs⟩ := (hm.row (fun g hg => .inl hg)).at_ hfa
   injection hAe with hAe
   injection hAe with e1 e2
   subst e1 e2
   obtain ⟨Ad, cd, rfl, _, _, hcd, hcdm, hrd⟩ := put_rep.1 hrep
   have hsz : (MixR w.heap.size).size = 3 := rfl
   have c2 := hcs 2 _ rfl
   rw [hsz, Nat.zero_add] at c2
   have B3r := H3.out.1.only hO (fun e => by have : w1.heap.size ≤ w.heap.size := e; omega)
   have y4 := On.cell (B3r.cell 4 : wr.cell? ⟨w.heap.size, 4, none⟩ = some (.slice (some ⟨g2, 0, none⟩) h.batch.puts.length c9))
   have yc := On.cell c2
   have hlt' : (k : Int) < h.batch.puts.length := by omega
   have HM := jh (ja hm (ja hO (ja hfa (ja hfs hrd))))
   clear hm hO hrep hcs hP hbw hfa hfs hlk hrd
   go_upto_region 5 with fail
   refine wp_region_mix (.seg [0, 1, 2, 3, 4, 5, 6, 7, 8, 9, 10] 11 (.seg [] 12 (.last [13] 14))) (fun w' => ∃ d : Wd (On wr), w' = d.w) (by kernel_rfl) (by kernel_rfl) (fun _ _ d _ _ h => by cases d <;> exact h) (ClsW.mk (jb _ _).drew) ?_
   unfold wpMix; simp only [pick, j1, j2, j3, j4]
   (repeat (show wpQuiet _ _ _ _ (_ :: _) _; go_big_quiet_step (fail))); refine qn ?_
   go_wp2_with fail
   have hbd : Below wr.heap.size wr wr.drew := (jb _ _).drew
   refine (clone_string Ad cd p.data _ wr.drew (HM.out.2.2.2.2.ext hbd) (by omega)).mono ?_
   rintro e w6 ⟨⟨v6, rfl, hv6⟩, hb6⟩
   obtain ⟨A6, c6, rfl, hc6, hc6m⟩ := hv6.form
   go_wp2_with fail
   have hm6 := (HM.out.1.ext hbd).ext hb6
   have row6 := hv6.row' (P := fun g => wr.drew.heap.size ≤ g) str_plain (fun g hg => (hv6.lt g hg).1)
   have hzd : wr.drew.heap.size = wr.heap.size := rfl
   obtain ⟨g3, c3, hv3, hB3, hg3, hn3, hm7, hfz, x, hx⟩ := hm6.set_ (k := k) (j := 2) (u := .slice A6 p.data.length c6) (a' := (p, true)) HM.out.2.2.1 (by rw [hsz]; omega) rfl (fun cs hcs => by
    obtain ⟨A', c', rfl, q1, q2, _, _, _⟩ := put_rep.1 hcs
    exact put_rep.2 ⟨A6, c6, rfl, q1, q2, hc6, hc6m, row6.mono fun g h1 _ => ⟨⟨.inl (by omega), fun e => by
     have e' : g = g2 := by simpa [Value.ownBlock] using e
     omega⟩, fun _ => by omega⟩⟩)
   have hg23 : g2 = g3 := by
    injection hv3 with hv3
    injection hv3 with hv3
    injection hv3 with hv3
   subst hg23
   clear hv3
   rw [hsz] at hm7 hfz hx
   rw [HM.out.2.2.2.1] at hm7
   have O7 : Only (fun g => w1.heap.size ≤ g) w6 (w6.setCell ⟨g2, k * 3 + 2, none⟩ (.slice A6 p.data.length c6)) := Only.set_ (F := fun g => w1.heap.size ≤ g) hg2 _
   have HM7 := jh (ja hm7 (((HM.out.2.1.tr (Only.of_below hbd)).tr (Only.of_below hb6)).tr O7))
   clear hm6 row6 hm7 O7 hv6
   dsimp only [wpList, SegQ]
   refine ⟨fun w' => ∃ d : Wd (On wr), w' = d.w, ClsW.mk (hbd.tr hb6), fun _ h => h, ?_⟩
   unfold wpMix; simp only [pick, j1, j2, j3, j4]
   (repeat (show wpQuiet _ _ _ _ (_ :: _) _; go_big_quiet_step (fail))); refine qn ?_
   go_wp2_with fail
   dsimp only [wpList, SegQ]
   refine ⟨fun w' => ∃ d : Wd (On wr), w' = d.w, ClsW.mk (hbd.tr hb6), fun _ h => h, ?_⟩
   unfold wpMix; simp only [pick, j1, j2, j3, j4]
   (repeat (show wpQuiet _ _ _ _ (_ :: _) _; go_big_quiet_step (fail))); refine qn ?_
   go_wp2_with fail
   dsimp only [wpList, SegQ]
   go_wp2_with fail
   go_round
   case rel => exact ⟨k + 1, by omega, by go_num, HM7.out.1, HM7.out.2⟩
   case measure => simp [intOf]; omega
  ·have hkn : k = h.batch.puts.length := by omega
   subst hkn
   have hO1 := jh (MixR.stop_ hm)
   have B3r := H3.out.1.only hO (fun e => by have : w1.heap.size ≤ w.heap.size := e; omega)
   have B13r := H3.out.2.1.only hO (fun e => by have : w1.heap.size ≤ w.heap.size + 1 := e; omega)
   have hrFr := H3.out.2.2.2.same (Same.of_only hO fun g hg e => by have := hg.2; omega) hO.size
   have hwr : Below w.heap.size w wr := H3.out.2.2.1.trans (hO.low (fun g hg => by omega) (by omega))
   have y8 : wr.cell? ⟨w.heap.size, 8, none⟩ = some (.slice fA h.firsts.length fc) := B3r.cell 8
   have HB := jh (ja B3r (ja B13r hwr))
   have C8 := clone_int fA fc h.firsts _ wr hrFr (by have := HR.out.2.2.2.2; omega)
   unfold GotOwn at C8
   clear hm hO B3r B13r hrFr hwr
   go_wp2_with fail
   refine C8.mono ?_
   clear C8 y8
   rintro e w8 ⟨⟨v8, rfl, hv8⟩, hb8⟩
   obtain ⟨A8, c8, rfl, hc8, hc8m⟩ := hv8.form
   have hz8 := hb8.size
   have B8 := HB.out.1.ext hb8
   have B18 := HB.out.2.1.ext hb8
   have x8 : w8.cell? ⟨w.heap.size, 8, none⟩ = some (.slice fA h.firsts.length fc) := B8.cell 8
   have x8f : w8.frozen? ⟨w.heap.size, 8, none⟩ = false := B8.frozen 8
   go_upto_region 8 with fail
   have B9 : Blk (w8.setCell ⟨w.heap.size, 8, none⟩ (.slice A8 h.firsts.length c8)) w.heap.size 162 (h.cellsV A2 c9 A8 c8) := B8.set_ 8 (.slice A8 h.firsts.length c8)
   have O9 : Only (fun g => g = w.heap.size ∨ g = w.heap.size + 1) w8 (w8.setCell ⟨w.heap.size, 8, none⟩ (.slice A8 h.firsts.length c8)) := Only.set_ (F := fun g => g = w.heap.size ∨ g = w.heap.size + 1) (.inl rfl) _
   have B19 := B18.far (p := ⟨w.heap.size, 8, none⟩) (show w.heap.size + 1 ≠ w.heap.size by omega) (.slice A8 h.firsts.length c8)
   generalize hw9 : w8.setCell ⟨w.heap.size, 8, none⟩ (.slice A8 h.firsts.length c8) = w9 at *
   clear hw9 x8 x8f B8 B18
   go_wp2_with (first
    | ((with_reducible refine wpList_load_blk rfl rfl ?_ B9 Tryz.underlying162 rfl (by kernel_rfl) ?_); · rfl)
    | (refine wpList_store_blk (cs := h.cellsV A2 c9 A8 c8) rfl rfl rfl rfl rfl B19 (by kernel_rfl) rfl (by simp [Held.cellsV, Value.oneCell']) ?_; intro w10 hB10 hO10 hz10)
    | fail)
   have hz9 := O9.size
   have O10 := O9.tr (hO10.mono (fun g hg => .inr hg))
   have hw10 : Below w.heap.size w w10 := (HB.out.2.2.tr hb8).trans (O10.low (fun g hg => by omega) (by have := HB.out.2.2.size; omega))
   have hP10 := (hO1.out.ext hb8).only O10 (fun g hg e => by
    rcases hg.1 with h1 | h1
    ·omega
    ·have := h1.2; omega) (fun g hg e => by have := (hO1.out.lt g hg).1; omega)
   have hF10 := hv8.only O10 (fun g hg e => by
    rcases hg with h1 | h1
    ·omega
    ·have := h1.2; omega) (fun g hg e => by have := (hv8.lt g hg).1; omega)
   exact bodyPost_blk rfl hB10 rfl Tryz.underlying162 rfl (by kernel_rfl) rfl ⟨⟨A2, c9, A8, c8, rfl, ⟨hc2, hc2m, (hP10.row (fun g hg => ⟨.inl hg, by omega⟩)).mono fun g hg _ => hg.2⟩, ⟨hc8, hc8m, hF10.row' int_plain fun g hg => by have := (hv8.lt g hg).1; omega⟩⟩, hw10⟩
open Go.RowKit
section
variable {w : World} {v : Value} {ps : List (Tx × Value)}
theorem run_lookup_v {t e : TypeId} (ht : Tryz.prog.underlying t = some (.map 34 e)) (h : MapV w v ps) (k : Tx) (z : Value) (hz : (zeroValue e).run Tryz.prog w = .ok z w) (c : Bool) :
 (Instr.lookup t v (txE k) c).run Tryz.prog w = .ok (if c then .tuple #[(assocOf k ps).getD z, .bool (assocOf k ps).isSome] else (assocOf k ps).getD z) w := by
 rcases h with ⟨rfl, rfl⟩ | ⟨m, rfl, hM⟩
 ·have := run_lookup_nil tx_key ht k z hz c
  simpa [assocOf] using this
 ·exact run_lookup_map tx_key ht hM k z hz c
theorem wpQuiet_lookup_v {ops : Array Oper} {rest : List Oper} {o : Oper} {a : Act} {C : World → Prop} {Q : Act → Prop} (r : Option Value) (hw : Region.wanted o (yielded ops a.tmps) = true) (mo x : Operand) (t : TypeId) (c : Bool) (hop : o.op = Op.lookup t mo x c) {e : TypeId}
 (ht : Tryz.prog.underlying t = some (.map 34 e)) (hm : a.eval mo = v) (h : ∀ w, C w → MapV w v ps) (k : Tx) (hx : a.eval x = txE k) (hr : assocOf k ps = r) (z : Value) (hz : ∀ w, (zeroValue e).run Tryz.prog w = .ok z w)
 (hK : wpQuiet Tryz.prog ops C Q rest (a.put o.dst (if c then .tuple #[r.getD z, .bool r.isSome] else r.getD z))) : wpQuiet Tryz.prog ops C Q (o :: rest) a := by
 refine BigFrame.wpQuiet_want hw fun K hK' => ⟨_, fun w hC => ?_, hK' _ hK⟩
 unfold Oper.quietAt execOp
 subst hr
 simp only [hop, hm, hx, Sem.run_bind, run_lookup_v ht (h w hC) k z (hz w) c, Sem.run_pure, Result.andThen_ok, Oper.quietUpon, and_self]
end
theorem MpAt.mapV {β : Type} {R : Rep β} {V : List Value → Value} {w : World} {P : Nat → Prop} {v : Value} {l : List (Tx × β)} (h : MpAt txE R V w P v l) :
 ∃ LA : List (Tx × (β × List Value)), MapV w v (LA.map fun p => (p.1, V p.2.2)) ∧ (∀ p ∈ LA, R.rep w P p.2.2 p.2.1) ∧ l = LA.map fun p => (p.1, p.2.1) := by
 obtain ⟨_, ⟨rfl, rfl⟩ | ⟨m, LA, rfl, _, hM, hr, hl⟩⟩ := h
 ·exact ⟨[], .inl ⟨rfl, rfl⟩, by simp, rfl⟩
 ·exact ⟨LA, .inr ⟨m, rfl, hM⟩, hr, hl⟩
theorem zero_held (w : World) : (zeroValue 162).run Tryz.prog w = .ok (.agg #[.int .i64 0, .int .i64 0, .int .i64 0, .string ⟨#[]⟩, .slice none 0 0, .int .i64 0, .int .i64 0, .int .i64 0, .slice none 0 0]) w := by kernel_rfl
theorem zero_outcome (w : World) : (zeroValue 178).run Tryz.prog w = .ok (.agg #[.int .i64 0, .int .i64 0, .int .i64 0, .bool false, .int .i64 0, .int .i64 0, .int .i64 0, .slice none 0 0]) w := by kernel_rfl
theorem zero_i64 (w : World) : (zeroValue 3).run Tryz.prog w = .ok (.int .i64 0) w := by kernel_rfl
section
variable {β : Type} {R : Rep β} {V : List Value → Value} {w w' : World} {P P' : Nat → Prop} {LA : List (Tx × (β × List Value))}
theorem MpAt.with_ {m : Nat} {t : Tx} {a : β} {cs : List Value} (hn : ((LA.map fun p => (p.1, p.2.1)).map (·.1)).Nodup) (hr : ∀ p ∈ LA, R.rep w' P' p.2.2 p.2.1) (hM : MapAt txE w' m (assocPut t (V cs) (LA.map fun p => (p.1, V p.2.2)))) (ha : R.rep w' P' cs a) (hm : P' m) :
 MpAt txE R V w' P' (.map (some m)) (putA t a (LA.map fun p => (p.1, p.2.1))) := by
 refine ⟨putA_nodup hn, .inr ⟨m, putA t (a, cs) LA, rfl, hm, ?_, fun p hp => ?_, ?_⟩⟩
 ·rw [assocPut_eq, putA_map (fun x : β × List Value => V x.2) t (a, cs) LA] at hM; exact hM
 ·rcases putA_mem hp with rfl | h | h
  ·exact ha
  ·exact hr p h.1
  ·exact hr p h
 ·rw [putA_map (fun x : β × List Value => x.1) t (a, cs) LA]
theorem MpAt.without_ {m : Nat} {t : Tx} (hn : ((LA.map fun p => (p.1, p.2.1)).map (·.1)).Nodup) (hr : ∀ p ∈ LA, R.rep w' P' p.2.2 p.2.1) (hM : MapAt txE w' m (assocDel t (LA.map fun p => (p.1, V p.2.2)))) (hm : P' m) :
 MpAt txE R V w' P' (.map (some m)) (delA t (LA.map fun p => (p.1, p.2.1))) := by
 refine ⟨delA_nodup hn, .inr ⟨m, delA t LA, rfl, hm, ?_, fun p hp => hr p ((delA_sub t LA).subset hp), ?_⟩⟩
 ·rw [assocDel_eq, delA_map (fun x : β × List Value => V x.2) t LA] at hM; exact hM
 ·rw [delA_map (fun x : β × List Value => x.1) t LA]
end
theorem held_of {LA : List (Tx × (Held × List Value))} {w : World} {P : Nat → Prop} (hr : ∀ p ∈ LA, HeldR.rep w P p.2.2 p.2.1) (t : Tx) :
 (getA t (LA.map fun p => (p.1, p.2.1)) = none ∧ assocOf t (LA.map fun p => (p.1, aggV p.2.2)) = none) ∨
 ∃ h pA pc fA fc, getA t (LA.map fun p => (p.1, p.2.1)) = some h ∧ assocOf t (LA.map fun p => (p.1, aggV p.2.2)) = some (.agg (h.cellsV pA pc fA fc).toArray) ∧ h.tx.fit ∧ sfit h.batch.key ∧ h.stamp.fit ∧ (h.batch.puts.length ≤ pc ∧ pc ≤ 9223372036854775807 ∧ PutR.Row w P pA h.batch.puts) ∧ (h.firsts.length ≤ fc ∧ fc ≤ 9223372036854775807 ∧ IntR.Row w P fA h.firsts) := by
 rw [assocOf_eq, getA_map (fun x : Held × List Value => x.1) t LA, getA_map (fun x : Held × List Value => aggV x.2) t LA]
 cases hg : getA t LA with
 | none => exact .inl ⟨rfl, rfl⟩
 | some x =>
   obtain ⟨h, cs⟩ := x
   have := hr _ (getA_mem hg)
   dsimp only at this
   obtain ⟨pA, pc, fA, fc, rfl, h1, h2, h3, h4, h5⟩ := held_rep.1 this
   exact .inr ⟨h, pA, pc, fA, fc, rfl, rfl, h1, h2, h3, h4, h5⟩
theorem decided_of {LD : List (Tx × (Int × List Value))} {w : World} {P : Nat → Prop} (hr : ∀ p ∈ LD, IntR.rep w P p.2.2 p.2.1) (t : Tx) :
 (assocOf t (LD.map fun p => (p.1, oneV p.2.2))).getD (.int .i64 0) = .int .i64 ((getA t (LD.map fun p => (p.1, p.2.1))).getD 0) ∧ i64 ((getA t (LD.map fun p => (p.1, p.2.1))).getD 0) := by
 rw [assocOf_eq, getA_map (fun x : Int × List Value => x.1) t LD, getA_map (fun x : Int × List Value => oneV x.2) t LD]
 cases hg : getA t LD with
 | none => exact ⟨rfl, by simp [i64]⟩
 | some x =>
   obtain ⟨n, cs⟩ := x
   have := hr _ (getA_mem hg)
   dsimp only at this
   obtain ⟨rfl, h⟩ := this
   exact ⟨rfl, h⟩
structure HeldFit (h : Held) : Prop where
 few : h.batch.puts.length ≤ 8
 data : ∀ p ∈ h.batch.puts, p.data.length ≤ 20 ∧ 0 < p.data.length
 firsts : h.firsts.length ≤ 100 ∧ ∀ n ∈ h.firsts, -1000000000 ≤ n ∧ n ≤ 1000000000
structure Fit (s : St) : Prop where
 self : s.self ≠ 0
 ring : s.ring.length ≤ 1000000
 vers : ∀ n, 0 ≤ versionT s.table n ∧ versionT s.table n ≤ 40000
 fits : ∀ n k, (knownT s.table n k).1.fit
 fair : StFair s
 frozen : s.frozen.length ≤ 1000000
 held : ∀ x ∈ s.held, HeldFit x.2
theorem Fit.seen {s : St} (h : Fit s) {w : World} {P : Nat → Prop} {g : Nat} (hst : StAt w P g s) : Seen g s w :=
 ⟨h.self, h.ring, h.vers, h.fits, fun n W hn hW => by
  obtain ⟨v, hB, hI⟩ := hst
  exact busy_any g s n P W ⟨v, hB.ext hW, hI.same (Same.of_below hW)⟩ h.frozen (fun x hx => by have := (h.held x hx).few; omega) hn⟩
def StOut (w : World) (P : Nat → Prop) (g : Nat) (q : St × Int) (e : Ending) (w' : World) : Prop :=
 e = .returned (.int .i64 q.2) ∧ StAt w' (fun k => P k ∨ w.heap.size ≤ k) g q.1 ∧ Only (· = g) w w'
theorem CodeOut.out {w w' : World} {P : Nat → Prop} {g : Nat} {q : St × Int} {e : Ending} (h : CodeOut w P g q e w') : StOut w P g q e w' := ⟨h.1, h.2.1, h.2.2.1⟩
set_option maxRecDepth 20000 in
set_option maxHeartbeats 3200000 in
theorem prepare_any (g : Nat) (s : St) (r : Rec) (nA pA sA : Option Addr) (nc pc sc : Nat) (P Q : Nat → Prop) (w : World) (h : StAt w P g s) (hg : ¬ P g) (hF : Fit s)
 (hr : RecAt w Q r nA nc pA pc sA sc) (hQ : ¬ Q g) (hl : r.batch.puts.length ≤ 1000000) (hd : ∀ p ∈ r.batch.puts, p.data.length ≤ 1000000) (hT : Tabs w) (h2 : 2 ≤ g) :
 Calls Tryz.prog 73 #[ptrV g, .agg (r.cells nA nc pA pc sA sc).toArray] w (StOut w P g (prepareS s r)) := by
 have hgl := h.lt
 have HH := jh (ja h (ja hg (ja hF (ja hr (ja hQ (ja hd hT))))))
 clear h hg hF hr hQ hd hT
 have hb1 := (jb w.heap.size w).al (.cells (r.cells nA nc pA pc sA sc).toArray 43)
 have B0 := Blk.new w 43 (r.cells nA nc pA pc sA sc)
 have hs1 : (w.alloc (.cells (r.cells nA nc pA pc sA sc).toArray 43)).heap.size = w.heap.size + 1 := by simp
 unfold ptrV
 go_enter Tryz.func73, Tryz.ntmps73
 go_upto_region 1 with fail
 refine forget (M := fun W => Code.wp _ _ _ _ W) (fun W => Below w.heap.size w W ∧ Blk W w.heap.size 43 (r.cells nA nc pA pc sA sc) ∧ W.heap.size = w.heap.size + 1) ⟨hb1, B0, hs1⟩ ?_
 clear B0 hb1 hs1
 rintro w1 ⟨hb1, B0, hs1⟩
 obtain ⟨v, hB, hI⟩ := HH.out.1
 have HB := jh (ja hB hI)
 obtain ⟨LA, hMV, hrep, hlA⟩ := hI.held.mapV
 obtain ⟨LD, hMD, hrepD, hlD⟩ := hI.decided.mapV
 have HE := jh (show prepareS s r = if (getA r.tx s.held).isSome then (s, 11) else if 0 < (getA r.tx s.decided).getD 0 then (s, 1) else if (mayS s r.batch).2.2 = 0 then ({ s with held := putA r.tx ⟨r.tx, r.batch, r.stamp, (mayS s r.batch).1⟩ s.held }, 0) else (s, (mayS s r.batch).2.2) from rfl)
 obtain ⟨hdec, hdfit⟩ := decided_of hrepD r.tx
 rw [← hlD] at hdec hdfit
 have hho := held_of hrep r.tx
 rw [← hlA] at hho
 have y6 := On.cell ((hB.ext hb1).cell 6 : w1.cell? ⟨g, 6, none⟩ = some v.held)
 have y8 := On.cell ((hB.ext hb1).cell 8 : w1.cell? ⟨g, 8, none⟩ = some v.decided)
 have z7 := On.cell (B0.cell 7 : w1.cell? ⟨w.heap.size, 7, none⟩ = some (.int .i64 r.tx.node))
 have z8 := On.cell (B0.cell 8 : w1.cell? ⟨w.heap.size, 8, none⟩ = some (.int .i64 r.tx.life))
 have z9 := On.cell (B0.cell 9 : w1.cell? ⟨w.heap.size, 9, none⟩ = some (.int .i64 r.tx.num))
 have HMV := jh (fun (W : World) (hW : ∃ d : Wd (On w1), W = d.w) => (show MapV W v.held (LA.map fun p => (p.1, aggV p.2.2)) from by obtain ⟨d, rfl⟩ := hW; exact hMV.ext (hb1.tr d.ok)))
 have H1 := jh (ja hb1 (ja B0 hs1))
 have HMD := jh (fun (W : World) (hW : ∃ d : Wd (On w1), W = d.w) => (show MapV W v.decided (LD.map fun p => (p.1, oneV p.2.2)) from by obtain ⟨d, rfl⟩ := hW; exact hMD.ext (hb1.tr d.ok)))
 have HREP := jh (ja hrep hlA)
 have HDEC := jh hdec
 clear hB hI hMV hMD hb1 B0 hs1 hrep hlA hrepD hlD hdec
 refine wp_region_mix (.seg [0, 1, 2, 3, 4, 5, 6, 7, 8, 9] 10 (.seg [] 11 (.leaf [12]))) (fun w' => ∃ d : Wd (On w1), w' = d.w) (by kernel_rfl) (by kernel_rfl) (fun _ _ d _ _ h => by cases d <;> exact h) (ClsW.mk (jb _ _).drew) ?_
 unfold wpMix; simp only [pick, j1, j2, j3, j4]
 rcases hho with ⟨hg0, hq⟩ | ⟨hh, qA, qc, uA, uc, hg1, hq, _⟩
 ·have HG := jh hg0
  clear hg0
  (repeat (show wpQuiet _ _ _ _ (_ :: _) _; first | (refine wpQuiet_lookup_v none rfl (.tmp 14) (.tmp 16) 137 true rfl Tryz.underlying137 rfl HMV.out r.tx rfl hq _ zero_held ?_; simp only [Option.getD_none, Option.isSome_none, if_true]; go_simp) | go_big_quiet_step (fail))); refine qn ?_
  go_wp2_with fail
  (dsimp only [wpList, SegQ]; refine ⟨fun w' => ∃ d : Wd (On w1), w' = d.w, ClsW.mk (by unfold On; repeat (with_reducible first | assumption | exact jb _ _ | refine Below.al ?_ _ | refine Below.drew ?_ | apply Below.st1)), fun _ h => h, ?_⟩; unfold wpMix; simp only [pick, j1, j2, j3, j4]; (repeat (show wpQuiet _ _ _ _ (_ :: _) _; go_big_quiet_step (fail))); refine qn ?_)
  go_wp2_with fail
  (dsimp only [wpList, SegQ]; refine ⟨fun w' => ∃ d : Wd (On w1), w' = d.w, ClsW.mk (by unfold On; repeat (with_reducible first | assumption | exact jb _ _ | refine Below.al ?_ _ | refine Below.drew ?_ | apply Below.st1)), fun _ h => h, ?_⟩; unfold wpMix; simp only [pick, j1, j2, j3, j4]; (repeat (show wpQuiet _ _ _ _ (_ :: _) _; go_big_quiet_step (fail))); refine qn ?_)
  go_upto_region 4 with fail
  have h14 : Below w1.heap.size w1 ((w1.alloc (.cells #[.int .i64 0, .int .i64 0, .int .i64 0, .string ⟨#[]⟩, .slice none 0 0, .int .i64 0, .int .i64 0, .int .i64 0, .slice none 0 0] 162)).drew) := by repeat (with_reducible first | assumption | exact jb _ _ | refine Below.al ?_ _ | refine Below.drew ?_ | apply Below.st1)
  generalize hw4 : ((w1.alloc (.cells #[.int .i64 0, .int .i64 0, .int .i64 0, .string ⟨#[]⟩, .slice none 0 0, .int .i64 0, .int .i64 0, .int .i64 0, .slice none 0 0] 162)).drew) = w4 at *
  clear hw4 hq
  have h14d : Below w1.heap.size w1 w4.drew := h14.drew
  have hst4 : StAt w4.drew P g s := ⟨v, HB.out.1.ext (H1.out.1.tr h14d), HB.out.2.same (Same.of_below (H1.out.1.tr h14d))⟩
  refine wp_region_mix (.leaf [0, 1, 2, 3, 4, 5, 6, 7]) (fun w' => ∃ d : Wd (On w1), w' = d.w) (by kernel_rfl) (by kernel_rfl) (fun _ _ d _ _ h => by cases d <;> exact h) (ClsW.mk h14d) ?_
  unfold wpMix; simp only [pick, j1, j2, j3, j4]
  (repeat (show wpQuiet _ _ _ _ (_ :: _) _; first | (refine wpQuiet_lookup_v _ rfl (.tmp 24) (.tmp 26) 139 false rfl Tryz.underlying139 rfl HMD.out r.tx rfl rfl _ zero_i64 ?_; simp only [Bool.false_eq_true, if_false]; rw [HDEC.out]; go_simp) | go_big_quiet_step (fail))); refine qn ?_
  by_cases hpos : 0 < (getA r.tx s.decided).getD 0
  ·have HS := jh (show prepareS s r = (s, 1) from by rw [HE.out, HG.out]; simp [hpos])
   have HF4 := jh (ja hst4 (H1.out.1.tr h14d))
   clear hst4 h14d h14
   go_wp2_with fail
   go_ret
   unfold StOut
   rw [HS.out]
   obtain ⟨v', a1, a2⟩ := HF4.out.1
   exact ⟨rfl, ⟨v', a1, a2.mono fun k hk => .inl hk⟩, Only.of_below HF4.out.2⟩
  ·have HS := jh (show prepareS s r = if (mayS s r.batch).2.2 = 0 then ({ s with held := putA r.tx ⟨r.tx, r.batch, r.stamp, (mayS s r.batch).1⟩ s.held }, 0) else (s, (mayS s r.batch).2.2) from by rw [HE.out, HG.out, if_neg (by simp), if_neg hpos])
   have hw4 := H1.out.1.tr h14d
   have x11 : w4.drew.cell? ⟨w.heap.size, 11, none⟩ = some (.string r.batch.key) := (H1.out.2.1.ext h14d).cell 11
   have x12 : w4.drew.cell? ⟨w.heap.size, 12, none⟩ = some (.slice pA r.batch.puts.length pc) := (H1.out.2.1.ext h14d).cell 12
   have C1 := may_any' g s r.batch pA pc P Q w4.drew hst4 (HH.out.2.2.1.seen hst4) (HH.out.2.2.2.1.puts.2.2.ext hw4) hl HH.out.2.2.2.1.key HH.out.2.2.2.2.2.1 (HH.out.2.2.2.2.2.2.below hw4) (by have := hw4.size; omega)
   unfold Got3 ptrV at C1
   have HM := jh (@mayS_ok s r.batch)
   generalize hq : mayS s r.batch = q at *
   obtain ⟨fl, kn, code⟩ := q
   simp only at C1
   have H4 := jh (ja h14d hw4)
   clear hq h14 h14d hw4 hst4
   go_wp2_with fail
   refine C1.mono ?_
   clear C1 x11 x12
   rintro e w5 ⟨⟨fv, rfl, hfv⟩, hb5⟩
   have hb6 := hb5.al (.cells #[.string kn.key, .int .i64 kn.first, .int .i64 kn.stamp.wall, .int .i64 kn.stamp.logic, .int .i64 kn.stamp.node] 70)
   have hfv6 := hfv.alloc (.cells #[.string kn.key, .int .i64 kn.first, .int .i64 kn.stamp.wall, .int .i64 kn.stamp.logic, .int .i64 kn.stamp.node] 70)
   obtain ⟨Af, cf, rfl, hcf, hcfm⟩ := hfv.form
   go_upto_region 7 with fail
   generalize (w5.alloc (.cells #[.string kn.key, .int .i64 kn.first, .int .i64 kn.stamp.wall, .int .i64 kn.stamp.logic, .int .i64 kn.stamp.node] 70)) = w6 at *
   have h16 := H4.out.1.tr hb6
   have hw6 := H4.out.2.tr hb6
   by_cases hcd : code = 0
   ·have hm := HM.out hcd
    have hgd := checkB_good hm.1
    have hbd := mayV_bound s.table HH.out.2.2.1.vers r.batch.puts [] (by simp) (by simp; have := hgd.few; omega)
    rw [← hm.2] at hbd
    have HS2 := jh (show prepareS s r = ({ s with held := putA r.tx ⟨r.tx, r.batch, r.stamp, fl⟩ s.held }, 0) from by rw [HS.out]; exact if_pos hcd)
    have B6 := H1.out.2.1.ext h16
    have b6 : w6.cell? ⟨g, 6, none⟩ = some v.held := (HB.out.1.ext hw6).cell 6
    have b6f : w6.frozen? ⟨g, 6, none⟩ = false := (HB.out.1.ext hw6).frozen 6
    have u6 := On.cell b6
    have u7 := On.cell (B6.cell 7 : w6.cell? ⟨w.heap.size, 7, none⟩ = some (.int .i64 r.tx.node))
    have u8 := On.cell (B6.cell 8 : w6.cell? ⟨w.heap.size, 8, none⟩ = some (.int .i64 r.tx.life))
    have u9 := On.cell (B6.cell 9 : w6.cell? ⟨w.heap.size, 9, none⟩ = some (.int .i64 r.tx.num))
    have u11 := On.cell (B6.cell 11 : w6.cell? ⟨w.heap.size, 11, none⟩ = some (.string r.batch.key))
    have u12 := On.cell (B6.cell 12 : w6.cell? ⟨w.heap.size, 12, none⟩ = some (.slice pA r.batch.puts.length pc))
    have u4 := On.cell (B6.cell 4 : w6.cell? ⟨w.heap.size, 4, none⟩ = some (.int .i64 r.stamp.wall))
    have u5 := On.cell (B6.cell 5 : w6.cell? ⟨w.heap.size, 5, none⟩ = some (.int .i64 r.stamp.logic))
    have u6b := On.cell (B6.cell 6 : w6.cell? ⟨w.heap.size, 6, none⟩ = some (.int .i64 r.stamp.node))
    have hMV6 := jh (HMV.out w6 ⟨⟨w6, h16⟩, rfl⟩)
    have hrowF := hfv6.row' (P := fun k => k < w6.heap.size) int_plain (fun k hk => (hfv6.lt k hk).2)
    have hrowP := (HH.out.2.2.2.1.puts.2.2.ext hw6).mono (Q := fun k => k < w6.heap.size) (fun k _ hk => hk)
    have H6 := jh (ja hw6 (ja hrowF (ja hrowP (ja hgd hbd))))
    subst hcd
    clear hm hgd hbd B6 h16 hw6 hb6 hfv hfv6 hb5 hrowF hrowP b6 b6f
    go_upto_region 8 with fail
    refine wp_region_mix (.seg [0, 1, 2, 3, 4, 5, 6, 7, 8, 9, 10, 11, 12, 13] 14 (.seg [] 15 (.seg [] 16 (.seg [] 17 (.last [18] 19))))) (fun w' => ∃ d : Wd (On w6), w' = d.w) (by kernel_rfl) (by kernel_rfl) (fun _ _ d _ _ h => by cases d <;> exact h) (ClsW.mk (jb _ _).drew) ?_
    unfold wpMix; simp only [pick, j1, j2, j3, j4]
    (repeat (show wpQuiet _ _ _ _ (_ :: _) _; go_big_quiet_step (fail))); refine qn ?_
    go_wp2_with fail
    (dsimp only [wpList, SegQ]; refine ⟨fun w' => ∃ d : Wd (On w6), w' = d.w, ClsW.mk (by unfold On; repeat (with_reducible first | assumption | exact jb _ _ | refine Below.al ?_ _ | refine Below.drew ?_ | apply Below.st1)), fun _ h => h, ?_⟩; unfold wpMix; simp only [pick, j1, j2, j3, j4]; (repeat (show wpQuiet _ _ _ _ (_ :: _) _; go_big_quiet_step (fail))); refine qn ?_)
    have hd6 : Below w6.heap.size w6 w6.drew := (jb _ _).drew
    have CO := own_any ⟨r.tx, r.batch, r.stamp, fl⟩ pA Af pc cf (fun k => k < w6.heap.size) w6.drew (H6.out.2.2.1.ext hd6) (H6.out.2.1.ext hd6) (by have := H6.out.2.2.2.1.few; show r.batch.puts.length ≤ _; omega) (fun p hp => by have := (H6.out.2.2.2.1.puts p hp).1.1; omega) (by have := H6.out.2.2.2.2.1; show fl.length ≤ _; omega)
    unfold Held.cellsV at CO
    go_wp2_with fail
    refine CO.mono ?_
    clear CO
    rintro e w7 ⟨⟨p7, pc7, f7, fc7, rfl, hp7, hf7⟩, hb7⟩
    unfold Held.cellsV
    have h67 := hd6.tr hb7
    go_wp2_with fail
    (dsimp only [wpList, SegQ]; refine ⟨fun w' => ∃ d : Wd (On w6), w' = d.w, ClsW.mk (h67), fun _ h => h, ?_⟩; unfold wpMix; simp only [pick, j1, j2, j3, j4]; (repeat (show wpQuiet _ _ _ _ (_ :: _) _; go_big_quiet_step (fail))); refine qn ?_)
    have CW := withH_any v.held _ r.tx r.tx.node r.tx.life r.tx.num r.stamp.wall r.stamp.logic r.stamp.node r.batch.key p7 f7 r.batch.puts.length pc7 fl.length fc7 w7 (hMV6.out.ext h67)
    unfold txE at CW
    go_wp2_with fail
    refine CW.mono ?_
    clear CW
    rintro e w8 ⟨⟨m8, rfl, hm8, hM8⟩, hb8⟩
    have h68 := h67.tr hb8
    have hw8 := H6.out.1.tr h68
    have b6 : w8.cell? ⟨g, 6, none⟩ = some v.held := (HB.out.1.ext hw8).cell 6
    have b6f : w8.frozen? ⟨g, 6, none⟩ = false := (HB.out.1.ext hw8).frozen 6
    have hp8 := hp7.2.2.ext hb8
    have hf8 := hf7.2.2.ext hb8
    go_wp2_with fail
    (dsimp only [wpList, SegQ]; refine ⟨fun w' => ∃ d : Wd (On w6), w' = d.w, ClsW.mk (h68), fun _ h => h, ?_⟩; unfold wpMix; simp only [pick, j1, j2, j3, j4]; (repeat (show wpQuiet _ _ _ _ (_ :: _) _; go_big_quiet_step (fail))); refine qn ?_)
    go_wp2_with fail
    (dsimp only [wpList, SegQ]; refine ⟨fun w' => ∃ d : Wd (On w6), w' = d.w, ClsW.mk (h68), fun _ h => h, ?_⟩; unfold wpMix; simp only [pick, j1, j2, j3, j4]; (repeat (show wpQuiet _ _ _ _ (_ :: _) _; go_big_quiet_step (fail))); refine qn ?_)
    have B9 : Blk (w8.setCell ⟨g, 6, none⟩ (.map (some m8))) g 141 (St.cells { s with held := putA r.tx ⟨r.tx, r.batch, r.stamp, fl⟩ s.held } { v with held := .map (some m8) }) := (HB.out.1.ext hw8).set_ 6 (.map (some m8))
    have O9 : Only (fun k => k = g) w8 (w8.setCell ⟨g, 6, none⟩ (.map (some m8))) := Only.set_ (F := fun k => k = g) rfl _
    have H9 := jh (ja B9 (ja O9 (ja hw8 (ja hp8 (ja hf8 (ja hp7 hf7))))))
    have HM8 := jh (ja hm8 (ja hM8 (ja h68 h67.size)))
    clear B9 O9 hw8 hp8 hf8 hp7 hf7 hm8 hM8 h68 hb8 h67 hb7 hd6
    go_wp2_with fail
    dsimp only [wpList, SegQ]
    generalize hw9 : w8.setCell ⟨g, 6, none⟩ (.map (some m8)) = w9 at *
    clear hw9 b6 b6f u4 u5 u6 u6b u7 u8 u9 u11 u12
    go_wp2_with fail
    go_ret
    unfold StOut
    rw [HS2.out]
    obtain ⟨B9, O9, hw8, hp8, hf8, hp7, hf7⟩ := H9.out
    obtain ⟨hm8, hM8, h68, hz8⟩ := HM8.out
    have hO : Only (· = g) w w9 := (Only.of_below hw8).tr O9
    have hI9 := (HB.out.2.same (Same.of_only hO fun k hk e => HH.out.2.1 (e ▸ hk))).mono (Q := fun k => P k ∨ w.heap.size ≤ k) fun k hk => .inl hk
    have hz6 := h68.size
    have hz7 := H6.out.1.size
    have hzd : w6.drew.heap.size = w6.heap.size := rfl
    have hnd := HB.out.2.held.1
    rw [HREP.out.2] at hnd ⊢
    refine ⟨rfl, ⟨_, B9, ⟨hI9.fit, hI9.ring, hI9.table, ?_, hI9.outcomes, hI9.decided, hI9.frozen, hI9.log⟩⟩, hO⟩
    have hgm : w6.heap.size ≤ m8 := by have := hm8; omega
    refine MpAt.with_ (cs := Held.cellsV ⟨r.tx, r.batch, r.stamp, fl⟩ p7 pc7 f7 fc7) hnd (fun p hp => HeldR.mono (HeldR.same (HREP.out.1 p hp) (Same.of_only hO fun k hk e => HH.out.2.1 (e ▸ hk))) fun k hk _ => .inl hk) (hM8.only O9 (fun e => by have e' : m8 = g := e; omega)) ?_ (.inr (by omega))
    refine held_rep.2 ⟨p7, pc7, f7, fc7, rfl, HH.out.2.2.2.1.tx, HH.out.2.2.2.1.key, HH.out.2.2.2.1.stamp, ⟨hp7.1, hp7.2.1, ?_⟩, ⟨hf7.1, hf7.2.1, ?_⟩⟩
    ·exact (hp8.same (Same.of_only O9 fun k hk e => by have e' : k = g := e; omega) O9.size).mono fun k hk _ => .inr (by omega)
    ·exact (hf8.same (Same.of_only O9 fun k hk e => by have e' : k = g := e; omega) O9.size).mono fun k hk _ => .inr (by omega)
   ·have hc' : (code == 0) = false := by rw [beq_eq_false_iff_ne]; exact hcd
    have HS2 := jh (show prepareS s r = (s, code) from by rw [HS.out]; exact if_neg hcd)
    have H6 := jh hw6
    clear hcd h16 hw6 hb6 hfv hfv6 hb5
    go_wp2_with fail
    go_ret
    unfold StOut
    rw [HS2.out]
    exact ⟨rfl, ⟨v, HB.out.1.ext H6.out, (HB.out.2.same (Same.of_below H6.out)).mono fun k hk => .inl hk⟩, Only.of_below H6.out⟩
 ·have HS := jh (show prepareS s r = (s, 11) from by rw [HE.out, hg1]; rfl)
  clear hg1
  (repeat (show wpQuiet _ _ _ _ (_ :: _) _; first | (refine wpQuiet_lookup_v _ rfl (.tmp 14) (.tmp 16) 137 true rfl Tryz.underlying137 rfl HMV.out r.tx rfl hq _ zero_held ?_; simp only [Option.getD_some, Option.isSome_some, if_true]; unfold Held.cellsV; go_simp) | go_big_quiet_step (fail))); refine qn ?_
  go_wp2_with fail
  (dsimp only [wpList, SegQ]; refine ⟨fun w' => ∃ d : Wd (On w1), w' = d.w, ClsW.mk (by unfold On; repeat (with_reducible first | assumption | exact jb _ _ | refine Below.al ?_ _ | refine Below.drew ?_ | apply Below.st1)), fun _ h => h, ?_⟩; unfold wpMix; simp only [pick, j1, j2, j3, j4]; (repeat (show wpQuiet _ _ _ _ (_ :: _) _; go_big_quiet_step (fail))); refine qn ?_)
  go_wp2_with fail
  (dsimp only [wpList, SegQ]; refine ⟨fun w' => ∃ d : Wd (On w1), w' = d.w, ClsW.mk (by unfold On; repeat (with_reducible first | assumption | exact jb _ _ | refine Below.al ?_ _ | refine Below.drew ?_ | apply Below.st1)), fun _ h => h, ?_⟩; unfold wpMix; simp only [pick, j1, j2, j3, j4]; (repeat (show wpQuiet _ _ _ _ (_ :: _) _; go_big_quiet_step (fail))); refine qn ?_)
  go_wp2_with fail
  go_ret
  unfold StOut
  rw [HS.out]
  have hb4 : Below w.heap.size w ((w1.alloc (.cells #[.int .i64 hh.tx.node, .int .i64 hh.tx.life, .int .i64 hh.tx.num, .string hh.batch.key, .slice qA hh.batch.puts.length qc, .int .i64 hh.stamp.wall, .int .i64 hh.stamp.logic, .int .i64 hh.stamp.node, .slice uA hh.firsts.length uc] 162)).drew) := (H1.out.1.al _).drew
  exact ⟨rfl, ⟨v, HB.out.1.ext hb4, (HB.out.2.same (Same.of_below hb4)).mono fun k hk => .inl hk⟩, Only.of_below hb4⟩
open Go.RowKit
theorem nodup_sub_len {α : Type} [BEq α] [LawfulBEq α] {l m : List α} (hn : l.Nodup) (h : ∀ x ∈ l, x ∈ m) : l.length ≤ m.length := by
 induction l generalizing m with
 | nil => simp
 | cons x l ih =>
   simp only [List.nodup_cons] at hn
   have hx := h x (by simp)
   have := ih (m := m.erase x) hn.2 fun y hy => (List.mem_erase_of_ne (fun e : y = x => hn.1 (e ▸ hy))).2 (h y (by simp [hy]))
   rw [List.length_erase_of_mem hx] at this
   have hp : 0 < m.length := List.length_pos_of_mem hx
   rw [List.length_cons]; omega
theorem sound_few {l : List Range} (h : soundR l = true) : l.length ≤ 64 := (sound_iff.1 h).2
theorem i64_of {n : Int} (h : -9000000000000000000 ≤ n ∧ n ≤ 9000000000000000000) : i64 n := ⟨by omega, by omega⟩
theorem sound_fit {s : Stamp} (h : soundB s = true) : s.fit := by
 simp only [soundB, withinB, Bool.and_eq_true, decide_eq_true_eq] at h
 exact ⟨i64_of (by omega), i64_of (by omega), i64_of (by omega)⟩
theorem knownB_fit {k : Known} (h : knownB k = true) : k.fit := by
 obtain ⟨_, h2, h3, h4, h5⟩ := knownB_iff.1 h
 have := keyB_short h2
 exact ⟨by unfold sfit; omega, i64_of (by omega), sound_fit h5⟩
theorem zeroKnown_fit : zeroKnown.fit := ⟨by show (0 : Nat) ≤ _; omega, show i64 0 from i64_of (by omega), ⟨show i64 0 from i64_of (by omega), show i64 0 from i64_of (by omega), show i64 0 from i64_of (by omega)⟩⟩
theorem keys_len {s : TS} {n : Str} (h : s.Ok n) : (streamOf n s).keys.length = s.keys.length := by
 have := congrArg List.length (keys_fst h)
 rw [List.length_map] at this
 rw [this, (sort_perm _).length_eq, List.length_map]
theorem Inv.fit {s : St} {N : Nat} (h : Inv s N) (hN : N ≤ 20100) : Fit s := by
 have hself := h.self
 refine ⟨by omega, by have := sound_few h.ring; omega, fun n => ?_, fun n k => ?_, ?_, ?_, fun x hx => ?_⟩
 ·rw [version_ev]; have := h.evs n; omega
 ·rw [known_ky]
  cases hq : getA k (kyT s.table n) with
  | none => exact zeroKnown_fit
  | some x => exact knownB_fit ((ev_ok h.tab n).2.2.1 _ (getA_mem hq)).2.1
 ·have hsz := h.size
  have hev : ∀ p ∈ s.table, p.2.events.length ≤ 20100 ∧ p.2.keys.length ≤ 20100 := fun p hp => by
   have hg := getA_of_mem h.tab.nd (show (p.1, p.2) ∈ s.table from hp)
   have h1 := h.evs p.1
   have h2 := h.kys p.1
   unfold evT at h1
   unfold kyT at h2
   rw [hg] at h1 h2
   simp only at h1 h2
   omega
  refine ⟨by omega, fun p hp => ⟨by have := (hev p hp).1; omega, by have := (hev p hp).2; omega⟩, ⟨?_, fun x hx => ?_⟩, by have := h.log; omega, fun n => ?_⟩
  ·have h1 : (takeT s.table allHashes).length = (someT s.table allHashes).length := by rw [← take_names]; simp
   have h2 : (someT s.table allHashes).length ≤ s.table.length := by
    unfold someT
    refine Nat.le_trans (List.length_filter_le _ _) ?_
    rw [(sort_perm _).length_eq, List.length_map]; exact Nat.le_refl _
   omega
  ·obtain ⟨t, ht, he, _⟩ := (mem_take h.tab).1 hx
   have h1 := hev _ (getA_mem ht)
   have h2 := keys_len (getA_ok h.tab ht)
   rw [he]
   have h3 : (streamOf x.name t).events = t.events := rfl
   rw [h3, h2]
   simp only at h1
   omega
  ·obtain ⟨hL, _⟩ := fresh_like hashS_bd h.tab
   rw [TS.Like.version hL, version_ev]
   have := h.evs n; omega
 ·have h1 : (s.frozen.map Rec.range).length ≤ s.ring.length := nodup_sub_len h.fnd fun x hx => by
   obtain ⟨f, hf, rfl⟩ := List.mem_map.1 hx
   exact (h.frozen f hf).1
  have := sound_few h.ring
  rw [List.length_map] at h1; omega
 ·have hh := h.held x hx
  have hg := checkB_good hh.check
  refine ⟨hg.few, fun p hp => ⟨(hg.puts p hp).1.1, List.length_pos_iff.2 (hg.puts p hp).2.2.1⟩, ?_, fun n hn => ?_⟩
  ·rw [hh.firsts]; unfold firstsT; rw [List.length_map]; have := hg.few; omega
  ·rw [hh.firsts] at hn
   unfold firstsT at hn
   obtain ⟨p, hp, rfl⟩ := List.mem_map.1 hn
   rw [version_ev]; have := h.evs p.stream; omega
open Go.RowKit
structure DcD (g gb : Nat) (t : Tx) (u : Value) (W : World) : Prop where
 c7 : W.cell? ⟨gb, 7, none⟩ = some (.int .i64 t.node)
 c8 : W.cell? ⟨gb, 8, none⟩ = some (.int .i64 t.life)
 c9 : W.cell? ⟨gb, 9, none⟩ = some (.int .i64 t.num)
 d8 : W.cell? ⟨g, 8, none⟩ = some u
section
variable {g gb : Nat} {t : Tx} {u : Value}
theorem DcD.a7 (d : Wd (DcD g gb t u)) : d.w.cell? ⟨gb, 7, none⟩ = some (.int .i64 t.node) := d.ok.c7
theorem DcD.a8 (d : Wd (DcD g gb t u)) : d.w.cell? ⟨gb, 8, none⟩ = some (.int .i64 t.life) := d.ok.c8
theorem DcD.a9 (d : Wd (DcD g gb t u)) : d.w.cell? ⟨gb, 9, none⟩ = some (.int .i64 t.num) := d.ok.c9
theorem DcD.b8 (d : Wd (DcD g gb t u)) : d.w.cell? ⟨g, 8, none⟩ = some u := d.ok.d8
theorem DcD.of {W : World} {ty ty' : TypeId} {r : Rec} {nA pA sA : Option Addr} {nc pc sc : Nat} {s : St} {v : SV} (hB : Blk W gb ty (r.cells nA nc pA pc sA sc)) (hS : Blk W g ty' (s.cells v)) : DcD g gb r.tx v.decided W :=
 ⟨hB.cell 7, hB.cell 8, hB.cell 9, hS.cell 8⟩
end
set_option maxRecDepth 20000 in
set_option maxHeartbeats 3200000 in
theorem decide_any (g : Nat) (s : St) (r : Rec) (nA pA sA : Option Addr) (nc pc sc : Nat) (P Q : Nat → Prop) (w : World) (h : StAt w P g s) (hg : ¬ P g) (hF : Fit s)
 (hr : RecAt w Q r nA nc pA pc sA sc) (hQ : ¬ Q g) (hT : Tabs w) (h2 : 2 ≤ g) :
 Calls Tryz.prog 74 #[ptrV g, .agg (r.cells nA nc pA pc sA sc).toArray] w (StOut w P g (decideS s r)) := by
 have hgl := h.lt
 have HH := jh (ja h (ja hg (ja hF (ja hr (ja hQ hT)))))
 clear h hg hF hr hQ hT
 have hb1 := (jb w.heap.size w).al (.cells (r.cells nA nc pA pc sA sc).toArray 43)
 have B0 := Blk.new w 43 (r.cells nA nc pA pc sA sc)
 have hs1 : (w.alloc (.cells (r.cells nA nc pA pc sA sc).toArray 43)).heap.size = w.heap.size + 1 := by simp
 unfold ptrV
 go_enter Tryz.func74, Tryz.ntmps74
 go_upto_region 1 with fail
 refine forget (M := fun W => Code.wp _ _ _ _ W) (fun W => Below w.heap.size w W ∧ Blk W w.heap.size 43 (r.cells nA nc pA pc sA sc) ∧ W.heap.size = w.heap.size + 1) ⟨hb1, B0, hs1⟩ ?_
 clear B0 hb1 hs1
 rintro w1 ⟨hb1, B0, hs1⟩
 obtain ⟨v, hB, hI⟩ := HH.out.1
 have HB := jh (ja hB hI)
 obtain ⟨LA, hMV, hrep, hlA⟩ := hI.held.mapV
 obtain ⟨LD, hMD, hrepD, hlD⟩ := hI.decided.mapV
 have hho := held_of hrep r.tx
 rw [← hlA] at hho
 have y6 := On.cell ((hB.ext hb1).cell 6 : w1.cell? ⟨g, 6, none⟩ = some v.held)
 have z7 := On.cell (B0.cell 7 : w1.cell? ⟨w.heap.size, 7, none⟩ = some (.int .i64 r.tx.node))
 have z8 := On.cell (B0.cell 8 : w1.cell? ⟨w.heap.size, 8, none⟩ = some (.int .i64 r.tx.life))
 have z9 := On.cell (B0.cell 9 : w1.cell? ⟨w.heap.size, 9, none⟩ = some (.int .i64 r.tx.num))
 have HMV := jh (fun (W : World) (hW : ∃ d : Wd (On w1), W = d.w) => (show MapV W v.held (LA.map fun p => (p.1, aggV p.2.2)) from by obtain ⟨d, rfl⟩ := hW; exact hMV.ext (hb1.tr d.ok)))
 have HMD := jh (fun (W : World) (hW : Below w.heap.size w W) => (show MapV W v.decided (LD.map fun p => (p.1, oneV p.2.2)) from hMD.ext hW))
 have H1 := jh (ja hb1 (ja B0 hs1))
 have HREP := jh (ja hrep (ja hlA (ja hrepD (ja hlD hMV))))
 clear hB hI hMV hMD hb1 B0 hs1 hrep hlA hrepD hlD
 refine wp_region_mix (.seg [0, 1, 2, 3, 4, 5, 6, 7, 8, 9] 10 (.seg [] 11 (.leaf [12]))) (fun w' => ∃ d : Wd (On w1), w' = d.w) (by kernel_rfl) (by kernel_rfl) (fun _ _ d _ _ h => by cases d <;> exact h) (ClsW.mk (jb _ _).drew) ?_
 unfold wpMix; simp only [pick, j1, j2, j3, j4]
 rcases hho with ⟨hg0, hq⟩ | ⟨hh, qA, qc, uA, uc, hg1, hq, k1, k2, k3, k4, k5⟩
 ·have HS := jh (show decideS s r = (s, 4) from by unfold decideS; rw [hg0])
  clear hg0
  (repeat (show wpQuiet _ _ _ _ (_ :: _) _; first | (refine wpQuiet_lookup_v none rfl (.tmp 11) (.tmp 13) 137 true rfl Tryz.underlying137 rfl HMV.out r.tx rfl hq _ zero_held ?_; simp only [Option.getD_none, Option.isSome_none, if_true]; go_simp) | go_big_quiet_step (fail))); refine qn ?_
  go_wp2_with fail
  (dsimp only [wpList, SegQ]; refine ⟨fun w' => ∃ d : Wd (On w1), w' = d.w, ClsW.mk (by unfold On; repeat (with_reducible first | assumption | exact jb _ _ | refine Below.al ?_ _ | refine Below.drew ?_ | apply Below.st1)), fun _ h => h, ?_⟩; unfold wpMix; simp only [pick, j1, j2, j3, j4]; (repeat (show wpQuiet _ _ _ _ (_ :: _) _; go_big_quiet_step (fail))); refine qn ?_)
  go_wp2_with fail
  (dsimp only [wpList, SegQ]; refine ⟨fun w' => ∃ d : Wd (On w1), w' = d.w, ClsW.mk (by unfold On; repeat (with_reducible first | assumption | exact jb _ _ | refine Below.al ?_ _ | refine Below.drew ?_ | apply Below.st1)), fun _ h => h, ?_⟩; unfold wpMix; simp only [pick, j1, j2, j3, j4]; (repeat (show wpQuiet _ _ _ _ (_ :: _) _; go_big_quiet_step (fail))); refine qn ?_)
  go_wp2_with fail
  go_ret
  unfold StOut
  rw [HS.out]
  have hb4 : Below w.heap.size w ((w1.alloc (.cells #[.int .i64 0, .int .i64 0, .int .i64 0, .string ⟨#[]⟩, .slice none 0 0, .int .i64 0, .int .i64 0, .int .i64 0, .slice none 0 0] 162)).drew) := (H1.out.1.al _).drew
  exact ⟨rfl, ⟨v, HB.out.1.ext hb4, (HB.out.2.same (Same.of_below hb4)).mono fun k hk => .inl hk⟩, Only.of_below hb4⟩
 ·obtain ⟨m, hvm, hMm⟩ : ∃ m, v.held = .map (some m) ∧ MapAt txE w m (LA.map fun p => (p.1, aggV p.2.2)) := by
   rcases HREP.out.2.2.2.2 with ⟨_, e⟩ | ⟨m, e, hM⟩
   ·rw [e] at hq; cases hq
   ·exact ⟨m, e, hM⟩
  have HS := jh (show decideS s r = (if r.yes then putS { s with held := delA r.tx s.held, decided := putA r.tx 1 s.decided } hh.batch hh.firsts r.stamp else { s with held := delA r.tx s.held, decided := putA r.tx 1 s.decided }, 0) from by unfold decideS; rw [hg1])
  have HK := jh (ja k2 (ja k4 (ja k5 (ja (HH.out.2.2.1.held _ (getA_mem hg1)) (ja hvm hMm)))))
  clear hg1 k1 k2 k3 k4 k5 hvm hMm
  (repeat (show wpQuiet _ _ _ _ (_ :: _) _; first | (refine wpQuiet_lookup_v _ rfl (.tmp 11) (.tmp 13) 137 true rfl Tryz.underlying137 rfl HMV.out r.tx rfl hq _ zero_held ?_; simp only [Option.getD_some, Option.isSome_some, if_true]; unfold Held.cellsV; go_simp) | go_big_quiet_step (fail))); refine qn ?_
  go_wp2_with fail
  (dsimp only [wpList, SegQ]; refine ⟨fun w' => ∃ d : Wd (On w1), w' = d.w, ClsW.mk (by unfold On; repeat (with_reducible first | assumption | exact jb _ _ | refine Below.al ?_ _ | refine Below.drew ?_ | apply Below.st1)), fun _ h => h, ?_⟩; unfold wpMix; simp only [pick, j1, j2, j3, j4]; (repeat (show wpQuiet _ _ _ _ (_ :: _) _; go_big_quiet_step (fail))); refine qn ?_)
  go_wp2_with fail
  (dsimp only [wpList, SegQ]; refine ⟨fun w' => ∃ d : Wd (On w1), w' = d.w, ClsW.mk (by unfold On; repeat (with_reducible first | assumption | exact jb _ _ | refine Below.al ?_ _ | refine Below.drew ?_ | apply Below.st1)), fun _ h => h, ?_⟩; unfold wpMix; simp only [pick, j1, j2, j3, j4]; (repeat (show wpQuiet _ _ _ _ (_ :: _) _; go_big_quiet_step (fail))); refine qn ?_)
  go_upto_region 4 with fail
  have B4 := (Blk.new w1 162 (hh.cellsV qA qc uA uc)).drew
  have h14 : Below w1.heap.size w1 ((w1.alloc (.cells #[.int .i64 hh.tx.node, .int .i64 hh.tx.life, .int .i64 hh.tx.num, .string hh.batch.key, .slice qA hh.batch.puts.length qc, .int .i64 hh.stamp.wall, .int .i64 hh.stamp.logic, .int .i64 hh.stamp.node, .slice uA hh.firsts.length uc] 162)).drew) := by repeat (with_reducible first | assumption | exact jb _ _ | refine Below.al ?_ _ | refine Below.drew ?_ | apply Below.st1)
  unfold Held.cellsV at B4
  generalize hw4 : ((w1.alloc (.cells #[.int .i64 hh.tx.node, .int .i64 hh.tx.life, .int .i64 hh.tx.num, .string hh.batch.key, .slice qA hh.batch.puts.length qc, .int .i64 hh.stamp.wall, .int .i64 hh.stamp.logic, .int .i64 hh.stamp.node, .slice uA hh.firsts.length uc] 162)).drew) = w4 at *
  have hs4 : w4.heap.size = w1.heap.size + 1 := by rw [← hw4]; show (w1.alloc _).heap.size = _; simp
  clear hw4 hq y6 z7 z8 z9
  have h14d : Below w1.heap.size w1 w4.drew := h14.drew
  have hw4 := H1.out.1.tr h14d
  have D4 : DcD g w.heap.size r.tx v.decided w4.drew := .of (H1.out.2.1.ext h14d) (HB.out.1.ext hw4)
  haveI : Nonempty (Wd (DcD g w.heap.size r.tx v.decided)) := ⟨⟨_, D4⟩⟩
  have a7 := DcD.a7 (g := g) (gb := w.heap.size) (t := r.tx) (u := v.decided)
  have a8 := DcD.a8 (g := g) (gb := w.heap.size) (t := r.tx) (u := v.decided)
  have a9 := DcD.a9 (g := g) (gb := w.heap.size) (t := r.tx) (u := v.decided)
  have b8 := DcD.b8 (g := g) (gb := w.heap.size) (t := r.tx) (u := v.decided)
  have x6 : w4.drew.cell? ⟨g, 6, none⟩ = some (.map (some m)) := by rw [← HK.out.2.2.2.2.1]; exact (HB.out.1.ext hw4).cell 6
  have H4 := jh (ja h14d (ja hw4 (ja B4.drew D4)))
  clear h14 h14d hw4 B4
  refine wp_region_mix (.seg [0, 1, 2, 3, 4, 6, 7, 9, 10, 11, 12, 13, 14] 5 (.seg [] 8 (.seg [] 15 (.seg [16, 17] 18 (.seg [] 19 (.last [20] 21)))))) (fun w' => ∃ d : Wd (DcD g w.heap.size r.tx v.decided), w' = d.w) (by kernel_rfl) (by kernel_rfl) (fun _ _ d _ _ h => by cases d <;> exact h) (ClsW.mk (D := DcD g w.heap.size r.tx v.decided) D4) ?_
  unfold wpMix; simp only [pick, j1, j2, j3, j4]
  (repeat (show wpQuiet _ _ _ _ (_ :: _) _; go_big_quiet_step (fail))); refine qn ?_
  go_wp2_with fail
  dsimp only [wpList, SegQ]
  refine ⟨fun w' => ∃ d : Wd (DcD g w.heap.size r.tx v.decided), w' = d.w, ClsW.mk (D := DcD g w.heap.size r.tx v.decided) D4, fun _ h => h, ?_⟩
  unfold wpMix; simp only [pick, j1, j2, j3, j4]
  (repeat (show wpQuiet _ _ _ _ (_ :: _) _; go_big_quiet_step (fail))); refine qn ?_
  have CA := withoutH_any m _ r.tx w4.drew (HK.out.2.2.2.2.2.ext H4.out.2.1)
  unfold txE at CA
  go_wp2_with fail
  refine CA.mono ?_
  clear CA x6 D4
  rintro e w5 ⟨⟨m5, rfl, hm5, hM5⟩, hb5⟩
  have h15 := H4.out.1.tr hb5
  have hw5 := H4.out.2.1.tr hb5
  have D5 : DcD g w.heap.size r.tx v.decided w5 := .of (H1.out.2.1.ext h15) (HB.out.1.ext hw5)
  go_wp2_with fail
  dsimp only [wpList, SegQ]
  refine ⟨fun w' => ∃ d : Wd (DcD g w.heap.size r.tx v.decided), w' = d.w, ClsW.mk (D := DcD g w.heap.size r.tx v.decided) D5, fun _ h => h, ?_⟩
  unfold wpMix; simp only [pick, j1, j2, j3, j4]
  (repeat (show wpQuiet _ _ _ _ (_ :: _) _; go_big_quiet_step (fail))); refine qn ?_
  have CB := withI_any v.decided _ r.tx 1 w5 (HMD.out w5 hw5)
  unfold txE at CB
  go_wp2_with fail
  refine CB.mono ?_
  clear CB D5
  rintro e w6 ⟨⟨m6, rfl, hm6, hM6⟩, hb6⟩
  have h16 := h15.tr hb6
  have hw6 := hw5.tr hb6
  have D6 : DcD g w.heap.size r.tx v.decided w6 := .of (H1.out.2.1.ext h16) (HB.out.1.ext hw6)
  go_wp2_with fail
  dsimp only [wpList, SegQ]
  refine ⟨fun w' => ∃ d : Wd (DcD g w.heap.size r.tx v.decided), w' = d.w, ClsW.mk (D := DcD g w.heap.size r.tx v.decided) D6, fun _ h => h, ?_⟩
  unfold wpMix; simp only [pick, j1, j2, j3, j4]
  (repeat (show wpQuiet _ _ _ _ (_ :: _) _; go_big_quiet_step (fail))); refine qn ?_
  have B6 := HB.out.1.ext hw6
  have x6 : w6.cell? ⟨g, 6, none⟩ = some v.held := B6.cell 6
  have x6f : w6.frozen? ⟨g, 6, none⟩ = false := B6.frozen 6
  have B7 := B6.set_ 6 (.map (some m5))
  have O7 : Only (fun k => k = g) w6 (w6.setCell ⟨g, 6, none⟩ (.map (some m5))) := Only.set_ (F := fun k => k = g) rfl _
  have D7 : DcD g w.heap.size r.tx v.decided (w6.setCell ⟨g, 6, none⟩ (.map (some m5))) := ⟨((H1.out.2.1.ext h16).only O7 (fun e => by have : w.heap.size = g := e; omega)).cell 7, ((H1.out.2.1.ext h16).only O7 (fun e => by have : w.heap.size = g := e; omega)).cell 8, ((H1.out.2.1.ext h16).only O7 (fun e => by have : w.heap.size = g := e; omega)).cell 9, B7.cell 8⟩
  have H7 := jh (ja B7 (ja O7 (ja D7 (ja h16 (ja hw6 (hb5.tr hb6))))))
  have HM := jh (ja hm5 (ja hM5 (ja hm6 (ja hM6 (ja h15.size (ja hb6 h16.size))))))
  clear B7 O7 D7 D6 h16 hw6 h15 hw5 hb5 hb6 hm5 hM5 hm6 hM6 B6
  go_wp2_with fail
  dsimp only [wpList, SegQ]
  refine ⟨fun w' => ∃ d : Wd (DcD g w.heap.size r.tx v.decided), w' = d.w, ClsW.mk (D := DcD g w.heap.size r.tx v.decided) H7.out.2.2.1, fun _ h => h, ?_⟩
  unfold wpMix; simp only [pick, j1, j2, j3, j4]
  (repeat (show wpQuiet _ _ _ _ (_ :: _) _; go_big_quiet_step (fail))); refine qn ?_
  clear x6 x6f
  go_wp2_with fail
  dsimp only [wpList, SegQ]
  refine ⟨fun w' => ∃ d : Wd (DcD g w.heap.size r.tx v.decided), w' = d.w, ClsW.mk (D := DcD g w.heap.size r.tx v.decided) H7.out.2.2.1, fun _ h => h, ?_⟩
  unfold wpMix; simp only [pick, j1, j2, j3, j4]
  (repeat (show wpQuiet _ _ _ _ (_ :: _) _; go_big_quiet_step (fail))); refine qn ?_
  have x8 : (w6.setCell ⟨g, 6, none⟩ (.map (some m5))).cell? ⟨g, 8, none⟩ = some v.decided := H7.out.1.cell 8
  have x8f : (w6.setCell ⟨g, 6, none⟩ (.map (some m5))).frozen? ⟨g, 8, none⟩ = false := H7.out.1.frozen 8
  have B8 : Blk ((w6.setCell ⟨g, 6, none⟩ (.map (some m5))).setCell ⟨g, 8, none⟩ (.map (some m6))) g 141 (St.cells { s with held := delA r.tx s.held, decided := putA r.tx 1 s.decided } { v with held := .map (some m5), decided := .map (some m6) }) := H7.out.1.set_ 8 (.map (some m6))
  have O8 : Only (fun k => k = g) w6 ((w6.setCell ⟨g, 6, none⟩ (.map (some m5))).setCell ⟨g, 8, none⟩ (.map (some m6))) := H7.out.2.1.tr (Only.set_ (F := fun k => k = g) rfl _)
  have H8 := jh (ja B8 O8)
  clear B8 O8
  go_wp2_with fail
  dsimp only [wpList, SegQ]
  generalize hw8 : (w6.setCell ⟨g, 6, none⟩ (.map (some m5))).setCell ⟨g, 8, none⟩ (.map (some m6)) = w8 at *
  clear hw8 x8 x8f a7 a8 a9 b8
  obtain ⟨B8, O8⟩ := H8.out
  obtain ⟨hm5, hM5, hm6, hM6, hz5, hb6, hz6⟩ := HM.out
  obtain ⟨_, _, _, h16, hw6, h46⟩ := H7.out
  have hO : Only (· = g) w w8 := (Only.of_below hw6).tr O8
  have hzd : w4.drew.heap.size = w4.heap.size := rfl
  have hz1 := H1.out.2.2
  have hz68 := O8.size
  have hI8 := (HB.out.2.same (Same.of_only hO fun k hk e => HH.out.2.1 (e ▸ hk))).mono (Q := fun k => P k ∨ w.heap.size ≤ k) fun k hk => .inl hk
  have hst8 : StAt w8 (fun k => P k ∨ w.heap.size ≤ k) g { s with held := delA r.tx s.held, decided := putA r.tx 1 s.decided } := by
   have hnd := HB.out.2.held.1
   have hndD := HB.out.2.decided.1
   refine ⟨_, B8, ⟨hI8.fit, hI8.ring, hI8.table, ?_, hI8.outcomes, ?_, hI8.frozen, hI8.log⟩⟩
   ·rw [HREP.out.2.1] at hnd
    show MpAt _ _ _ _ _ _ (delA r.tx s.held)
    rw [HREP.out.2.1]
    exact MpAt.without_ hnd (fun p hp => HeldR.mono (HeldR.same (HREP.out.1 p hp) (Same.of_only hO fun k hk e => HH.out.2.1 (e ▸ hk))) fun k hk _ => .inl hk) ((hM5.ext hb6).only O8 (fun e => by have e' : m5 = g := e; omega)) (.inr (by omega))
   ·rw [HREP.out.2.2.2.1] at hndD
    show MpAt _ _ _ _ _ _ (putA r.tx 1 s.decided)
    rw [HREP.out.2.2.2.1]
    exact MpAt.with_ (cs := [.int .i64 1]) hndD (fun p hp => IntR.mono (IntR.same (HREP.out.2.2.1 p hp) (Same.of_only hO fun k hk e => HH.out.2.1 (e ▸ hk))) fun k hk _ => .inl hk) (hM6.only O8 (fun e => by have e' : m6 = g := e; omega)) ⟨rfl, by constructor <;> omega⟩ (.inr (by omega))
  have hgn : ¬ (P g ∨ w.heap.size ≤ g) := fun e => by
   rcases e with e | e
   ·exact HH.out.2.1 e
   ·omega
  have BR := (H1.out.2.1.ext h16).only O8 (fun e => by have e' : w.heap.size = g := e; omega)
  have BH := (H4.out.2.2.1.ext h46).only O8 (fun e => by have e' : w1.heap.size = g := e; omega)
  have x3 : w8.cell? ⟨w.heap.size, 3, none⟩ = some (.bool r.yes) := BR.cell 3
  have HX := jh (ja hst8 (ja hO (ja BR BH)))
  clear hst8 hO BR BH hI8 B8 O8 hM5 hM6 hb6 h16 hw6 h46 hm5 hm6
  cases hy : r.yes
  ·rw [hy] at x3
   have HS2 := jh (show decideS s r = ({ s with held := delA r.tx s.held, decided := putA r.tx 1 s.decided }, 0) from by rw [HS.out, hy]; rfl)
   clear hy
   go_wp2_with fail
   go_ret
   unfold StOut
   rw [HS2.out]
   exact ⟨rfl, HX.out.1, HX.out.2.1⟩
  ·rw [hy] at x3
   have HS2 := jh (show decideS s r = (putS { s with held := delA r.tx s.held, decided := putA r.tx 1 s.decided } hh.batch hh.firsts r.stamp, 0) from by rw [HS.out, hy]; rfl)
   clear hy
   have BR := HX.out.2.2.1
   have BH := HX.out.2.2.2
   have x4 : w8.cell? ⟨w.heap.size, 4, none⟩ = some (.int .i64 r.stamp.wall) := BR.cell 4
   have x5 : w8.cell? ⟨w.heap.size, 5, none⟩ = some (.int .i64 r.stamp.logic) := BR.cell 5
   have x6 : w8.cell? ⟨w.heap.size, 6, none⟩ = some (.int .i64 r.stamp.node) := BR.cell 6
   have v3 : w8.cell? ⟨w1.heap.size, 3, none⟩ = some (.string hh.batch.key) := BH.cell 3
   have v4 : w8.cell? ⟨w1.heap.size, 4, none⟩ = some (.slice qA hh.batch.puts.length qc) := BH.cell 4
   have v8 : w8.cell? ⟨w1.heap.size, 8, none⟩ = some (.slice uA hh.firsts.length uc) := BH.cell 8
   obtain ⟨hk, hpR, hfR, hfit, _, _⟩ := HK.out
   have hsm := fun (k : Nat) (hk : P k) => (fun (e : (fun k => k = g) k) => HH.out.2.1 (e ▸ hk))
   have C := sput_any g { s with held := delA r.tx s.held, decided := putA r.tx 1 s.decided } hh.batch hh.firsts r.stamp qA uA qc uc (fun k => P k ∨ w.heap.size ≤ k) P w8 HX.out.1 hgn ⟨HH.out.2.2.1.fair.1, HH.out.2.2.1.fair.2, HH.out.2.2.1.fair.3, HH.out.2.2.1.fair.4, HH.out.2.2.1.fair.5⟩
    (hpR.2.2.same (Same.of_only HX.out.2.1 hsm) HX.out.2.1.size) (hfR.2.2.same (Same.of_only HX.out.2.1 hsm) HX.out.2.1.size) HH.out.2.1 hfit.few (fun p hp => (hfit.data p hp).1) (fun p hp => (hfit.data p hp).2) hk hfit.firsts.1 hfit.firsts.2 HH.out.2.2.2.1.stamp (HH.out.2.2.2.2.2.only HX.out.2.1 (by omega) (by omega)) h2
   unfold ptrV at C
   have HZ := jh (ja hz1 (ja hs4 (ja hzd (ja hz5 (ja hz6 hz68)))))
   clear hk hpR hfR hfit hsm BR BH hz1 hs4 hzd hz5 hz6 hz68
   go_wp2_with fail
   refine C.mono ?_
   clear C x4 x5 x6 v3 v4 v8 x3
   rintro e w9 ⟨rfl, hst9, hO9, _⟩
   have H9 := jh (ja hst9 hO9)
   clear hst9 hO9
   go_wp2_with fail
   go_ret
   unfold StOut
   rw [HS2.out]
   obtain ⟨v9, a1, a2⟩ := H9.out.1
   exact ⟨rfl, ⟨v9, a1, a2.mono fun k hk => by
    rcases hk with h | h
    ·exact h
    ·exact .inr (by have := HX.out.2.1.size; omega)⟩, HX.out.2.1.tr H9.out.2⟩
open Go.RowKit
theorem commit_out (g : Nat) (s : St) (r : Rec) (nA pA sA : Option Addr) (nc pc sc : Nat) (P Q : Nat → Prop) (w : World) (h : StAt w P g s) (hg : ¬ P g) (hF : Fit s)
 (hr : RecAt w Q r nA nc pA pc sA sc) (hQ : ¬ Q g) (hl : r.batch.puts.length ≤ 1000000) (hd : ∀ p ∈ r.batch.puts, p.data.length ≤ 1000000) (hT : Tabs w) (h2 : 2 ≤ g) :
 Calls Tryz.prog 72 #[ptrV g, .agg (r.cells nA nc pA pc sA sc).toArray] w (StOut w P g (commitS s r)) :=
 (commit_any g s r nA pA sA nc pc sc P Q w h hg hF.fair (hF.seen h) hr hQ hl hd hT h2).mono fun _ _ h => h.out
theorem decide_out (g : Nat) (s : St) (r : Rec) (nA pA sA : Option Addr) (nc pc sc : Nat) (P Q : Nat → Prop) (w : World) (h : StAt w P g s) (hg : ¬ P g) (hF : Fit s)
 (hr : RecAt w Q r nA nc pA pc sA sc) (hQ : ¬ Q g) (_hl : r.batch.puts.length ≤ 1000000) (_hd : ∀ p ∈ r.batch.puts, p.data.length ≤ 1000000) (hT : Tabs w) (h2 : 2 ≤ g) :
 Calls Tryz.prog 74 #[ptrV g, .agg (r.cells nA nc pA pc sA sc).toArray] w (StOut w P g (decideS s r)) :=
 decide_any g s r nA pA sA nc pc sc P Q w h hg hF hr hQ hT h2
open Go.RowKit
set_option maxHeartbeats 1600000 in
theorem slog_any (g : Nat) (s : St) (P : Nat → Prop) (w : World) (h : StAt w P g s) (hs : s.self ≠ 0) (hl : s.log.length ≤ 1000000) : Calls Tryz.prog 19 #[ptrV g] w fun e w' => GotOwn EventR w.heap.size 63 (fun _ => False) s.log e w' ∧ Below w.heap.size w w' := by
 obtain ⟨v, hB, hI⟩ := h
 have b0 : w.cell? ⟨g, 0, none⟩ = some (.int .i64 s.self) := hB.cell 0
 have b10 : w.cell? ⟨g, 10, none⟩ = some v.log := hB.cell 10
 have C1 := gone_any g s.self w b0 hs
 obtain ⟨A, c, hv, hc1, hc2, hrow⟩ := hI.log
 have hvl : v.log = .slice A s.log.length c := by injection hv
 rw [hvl] at b10
 have C2 := clone_Event A c s.log P w hrow (by omega)
 unfold GotOwn at C2
 clear hB hI hv hvl hrow hc1 hc2 hl b0
 unfold ptrV at C1 ⊢
 go_enter Tryz.func19, Tryz.ntmps19
 go_wp2_with fail
 refine C1.mono ?_
 clear C1
 rintro e w' ⟨rfl, rfl⟩
 go_wp2_with fail
 refine C2.mono ?_
 clear C2 b10
 rintro e w' ⟨⟨v2, rfl, hv2⟩, hb2⟩
 have HV := jh (ja hv2 hb2)
 obtain ⟨A2, c2, rfl, _⟩ := hv2.form
 clear hv2 hb2
 go_wp2_with fail
 go_ret
 exact ⟨⟨_, rfl, HV.out.1.plain event_plain⟩, HV.out.2⟩
set_option maxHeartbeats 1600000 in
theorem sranges_any (g : Nat) (s : St) (P : Nat → Prop) (w : World) (h : StAt w P g s) (hs : s.self ≠ 0) (hl : s.ring.length ≤ 1000000) : Calls Tryz.prog 22 #[ptrV g] w fun e w' => GotOwn RangeR w.heap.size 40 (fun _ => False) s.ring e w' ∧ Below w.heap.size w w' := by
 obtain ⟨v, hB, hI⟩ := h
 have b0 : w.cell? ⟨g, 0, none⟩ = some (.int .i64 s.self) := hB.cell 0
 have b4 : w.cell? ⟨g, 4, none⟩ = some v.ring := hB.cell 4
 have C1 := gone_any g s.self w b0 hs
 obtain ⟨A, c, hv, hc1, hc2, hrow⟩ := hI.ring
 have hvl : v.ring = .slice A s.ring.length c := by injection hv
 rw [hvl] at b4
 have C2 := clone_Range A c s.ring P w hrow (by omega)
 unfold GotOwn at C2
 clear hB hI hv hvl hrow hc1 hc2 hl b0
 unfold ptrV at C1 ⊢
 go_enter Tryz.func22, Tryz.ntmps22
 go_wp2_with fail
 refine C1.mono ?_
 clear C1
 rintro e w' ⟨rfl, rfl⟩
 go_wp2_with fail
 refine C2.mono ?_
 clear C2 b4
 rintro e w' ⟨⟨v2, rfl, hv2⟩, hb2⟩
 have HV := jh (ja hv2 hb2)
 obtain ⟨A2, c2, rfl, _⟩ := hv2.form
 clear hv2 hb2
 go_wp2_with fail
 go_ret
 exact ⟨⟨_, rfl, HV.out.1.plain range_plain⟩, HV.out.2⟩
end Go.Proofs.YtpgocpodhamibaaGreatDoor
