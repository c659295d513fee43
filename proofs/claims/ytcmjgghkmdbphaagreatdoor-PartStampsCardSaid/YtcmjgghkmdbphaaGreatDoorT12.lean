/- state: has, busy. state: known. -/
import Derived.Test.YtcmjgghkmdbphaaGreatDoorT11
import Derived.Test.YtcmjgghkmdbphaaGreatDoorT08
import Derived.Test.YtcmjgghkmdbphaaGreatDoorT05
import Derived.Laws.StructEq
import Derived.Deep.DeepCutAuto
set_option maxRecDepth 20000
set_option maxHeartbeats 25600000
namespace Go.Proofs.YtcmjgghkmdbphaaGreatDoor
open Go.RowKit
theorem has_any (r : Range) (h : Int) (w : World) : Calls Tryz.prog 122 #[r.val, .int .i64 h] w fun e w' => e = .returned (.bool (r.has h)) ∧ Below w.heap.size w w' := by
 unfold Range.val
 go_enter Tryz.func122, Tryz.ntmps122
 go_wp2
 all_goals
  go_ret
  refine ⟨ret_bool ?_, by repeat (with_reducible first | assumption | exact jb _ _ | refine Below.al ?_ _ | refine Below.drew ?_ | apply Below.st1)⟩
  go_light
  unfold Range.has
  rw [Bool.eq_iff_iff]
  simp at *
  omega
theorem busyAt_any (n : Str) (b : Nat) (x : Put) (A : Option Addr) (c : Nat) (w : World) (hb : w.cell? ⟨b, 0, none⟩ = some (.string n)) : Calls Tryz.prog 210 #[.agg #[.string x.stream, .int .i64 x.expect, .slice A x.data.length c], .pointer (some ⟨b, 0, none⟩)] w fun e w' => e = .returned (.bool (decide (x.stream = n))) ∧ Below w.heap.size w w' := by
 have hb' : (w.alloc (.cells #[.string x.stream, .int .i64 x.expect, .slice A x.data.length c] 69)).cell? ⟨b, 0, none⟩ = some (.string n) := (Below.cell ((jb _ w).al _) (p := ⟨b, 0, none⟩) (lt_of_cell hb)).trans hb
 have heq : (x.stream.toList == n.toList) = decide (x.stream = n) := by
  by_cases h : x.stream = n
  ·subst h; simp
  ·rw [str_ne h, jd h]
 have HE := jh heq
 clear heq
 go_enter Tryz.func210, Tryz.ntmps210
 go_wp2_with fail
 go_ret
 exact ⟨ret_bool HE.out, (jb _ _).al _⟩
theorem enters_busy : ∀ args w, (callFunc 210 args).run Tryz.prog w = .ok (.enter 210 args) w := enters_of Tryz.func210 (by kernel_rfl) rfl
def Held.cellsV (h : Held) (pA : Option Addr) (pc : Nat) (fA : Option Addr) (fc : Nat) : List Value :=
 [.int .i64 h.tx.node, .int .i64 h.tx.life, .int .i64 h.tx.num, .string h.batch.key, .slice pA h.batch.puts.length pc, .int .i64 h.stamp.wall, .int .i64 h.stamp.logic, .int .i64 h.stamp.node, .slice fA h.firsts.length fc]
theorem held_rep {w : World} {P : Nat → Prop} {cs : List Value} {h : Held} : HeldR.rep w P cs h ↔ ∃ pA pc fA fc, cs = h.cellsV pA pc fA fc ∧ h.tx.fit ∧ sfit h.batch.key ∧ h.stamp.fit ∧ (h.batch.puts.length ≤ pc ∧ pc ≤ 9223372036854775807 ∧ PutR.Row w P pA h.batch.puts) ∧ (h.firsts.length ≤ fc ∧ fc ≤ 9223372036854775807 ∧ IntR.Row w P fA h.firsts) := by
 constructor
 ·rintro ⟨c1, c2, rfl, htx, c3, c4, rfl, hb, c5, c6, rfl, hst, ⟨fA, fc, rfl, f1, f2, f3⟩⟩
  obtain ⟨rfl, h1⟩ := tx_rep.1 htx
  obtain ⟨pA, pc, rfl, b1, b2, b3, b4⟩ := batch_rep.1 hb
  obtain ⟨rfl, h2⟩ := stamp_rep.1 hst
  exact ⟨pA, pc, fA, fc, rfl, h1, b1, h2, ⟨b2, b3, b4⟩, ⟨f1, f2, f3⟩⟩
 ·rintro ⟨pA, pc, fA, fc, rfl, h1, b1, h2, ⟨b2, b3, b4⟩, ⟨f1, f2, f3⟩⟩
  exact ⟨_, _, rfl, tx_rep.2 ⟨rfl, h1⟩, _, _, rfl, batch_rep.2 ⟨pA, pc, rfl, b1, b2, b3, b4⟩, _, [_], rfl, stamp_rep.2 ⟨rfl, h2⟩, fA, fc, rfl, f1, f2, f3⟩
theorem eraseIdx_mem {α : Type} {l : List α} {i : Nat} {x y : α} (h : l[i]? = some x) (hy : y ∈ l) : y = x ∨ y ∈ l.eraseIdx i := by
 induction l generalizing i with
 | nil => simp at hy
 | cons a l ih =>
   cases i with
   | zero =>
     simp at h; subst h
     rcases List.mem_cons.1 hy with rfl | hy
     ·exact .inl rfl
     ·exact .inr (by simpa using hy)
   | succ i =>
     simp at h
     rcases List.mem_cons.1 hy with rfl | hy
     ·exact .inr (by simp)
     ·rcases ih h hy with e | e
      ·exact .inl e
      ·exact .inr (by simp [e])
def HeldFair (s : St) : Prop := ∀ x ∈ s.held, x.2.batch.puts.length ≤ 1000000
theorem held_same {w w' : World} {P : Nat → Prop} {LA : List (Tx × (Held × List Value))} (h : ∀ p ∈ LA, HeldR.rep w P p.2.2 p.2.1) (hb : Below w.heap.size w w') : ∀ p ∈ LA, HeldR.rep w' P p.2.2 p.2.1 := fun p hp => HeldR.same (h p hp) (js hb)
theorem any_erase {α : Type} {l left : List α} {q : α → Bool} {i : Nat} {x : α} (h : l.any q = left.any q) (hi : left[i]? = some x) (hx : q x = false) : l.any q = (left.eraseIdx i).any q := by
 rw [h]
 rw [Bool.eq_iff_iff, List.any_eq_true, List.any_eq_true]
 constructor
 ·rintro ⟨y, hy, hq⟩
  rcases eraseIdx_mem hi hy with rfl | hy
  ·rw [hx] at hq; cases hq
  ·exact ⟨y, hy, hq⟩
 ·rintro ⟨y, hy, hq⟩
  exact ⟨y, List.mem_of_mem_eraseIdx hy, hq⟩
theorem wpList_next_held {P : Program} {ops : Array Oper} {rest : List Oper} {o : Oper} {a : Act} {Q : Exit → Act → World → Prop} {it m : Nat} {w : World} {R : Nat → Prop} {left : List (Tx × (Held × List Value))}
 (hg : o.guard = none) (ito : Operand) (hop : o.op = Op.next ito false) (hit : a.eval ito = .pointer (some ⟨it, 0, none⟩)) (h : IterAt txE w it m (left.map fun p => (p.1, aggV p.2.2))) (hr : ∀ p ∈ left, HeldR.rep w R p.2.2 p.2.1)
 (hDone : left = [] → wpList P ops Q rest (a.put o.dst (.tuple #[.bool false])) w)
 (hMore : ∀ (i : Nat) (t : Tx) (h : Held) (pA fA : Option Addr) (pc fc : Nat) (w' : World), left[i]? = some (t, (h, h.cellsV pA pc fA fc)) → (h.batch.puts.length ≤ pc ∧ pc ≤ 9223372036854775807 ∧ PutR.Row w R pA h.batch.puts) →
  IterAt txE w' it m ((left.eraseIdx i).map fun p => (p.1, aggV p.2.2)) → Only (· = it) w w' → w'.heap.size = w.heap.size →
  (Instr.entry (.pointer (some ⟨it, 0, none⟩))).run P w' = .ok (.tuple #[txE t, .agg #[.int .i64 h.tx.node, .int .i64 h.tx.life, .int .i64 h.tx.num, .string h.batch.key, .slice pA h.batch.puts.length pc, .int .i64 h.stamp.wall, .int .i64 h.stamp.logic, .int .i64 h.stamp.node, .slice fA h.firsts.length fc]]) w' → wpList P ops Q rest (a.put o.dst (.tuple #[.bool true, txE t, .agg #[.int .i64 h.tx.node, .int .i64 h.tx.life, .int .i64 h.tx.num, .string h.batch.key, .slice pA h.batch.puts.length pc, .int .i64 h.stamp.wall, .int .i64 h.stamp.logic, .int .i64 h.stamp.node, .slice fA h.firsts.length fc]])) w') : wpList P ops Q (o :: rest) a w := by
 refine wpList_next_map hg ito hop hit h (fun h0 => hDone (by simpa using h0)) (fun i p w3 hp hit3 hO3 hz3 hen => ?_)
 rw [List.getElem?_map] at hp
 obtain ⟨q, hq, rfl⟩ := Option.map_eq_some_iff.1 hp
 obtain ⟨t, hd, cs⟩ := q
 have hh := hr _ (List.mem_of_getElem? hq)
 dsimp only at hh
 obtain ⟨pA, pc, fA, fc, rfl, h1, h2, h3, h4, h5⟩ := held_rep.1 hh
 rw [← map_erase] at hit3
 exact hMore i t hd pA fA pc fc w3 hq h4 hit3 hO3 hz3 (hen w3 rfl rfl)
theorem busy_any (g : Nat) (s : St) (n : Str) (P : Nat → Prop) (w : World) (h : StAt w P g s) (_hl : s.frozen.length ≤ 1000000) (hp : HeldFair s) (hn : sfit n) : Calls Tryz.prog 112 #[ptrV g, .string n] w fun e w' => e = .returned (.bool (busyS s n)) ∧ Below w.heap.size w w' := by
 obtain ⟨v, hB, hI⟩ := h
 have hb0 := (jb w.heap.size w).al (.cells #[.string n] 9)
 have hB0 := hB.alloc (.cells #[.string n] 9)
 have BN := Blk.new w 9 [.string n]
 have CH := fun W => hashI_any n W hn
 obtain ⟨Af, cf, hv, _, _, hrowf⟩ := hI.frozen
 obtain hvf : v.frozen = .slice Af s.frozen.length cf := by injection hv
 have b9 : (w.alloc (.cells #[.string n] 9)).cell? ⟨g, 9, none⟩ = some v.frozen := hB0.cell 9
 rw [hvf] at b9
 have CHS := jh (fun r h W => has_any r h W)
 unfold Range.val at CHS
 have HR := jh (hrowf.mono (Q := fun g => g < w.heap.size) fun g _ h => h)
 have HI := jh (ja hI hB)
 have HHP := jh hp
 have hgl := hB.lt
 have HBS := jh (show busyS s n = (s.frozen.any (fun f => f.range.has (hashS n)) || s.held.any (fun x => x.2.batch.puts.any fun p => decide (p.stream = n))) from rfl)
 clear hI hv hvf hrowf hB hp
 have HN0 := jh hn
 clear hn
 unfold ptrV
 go_enter Tryz.func112, Tryz.ntmps112
 go_wp2_with fail
 refine (CH _).mono ?_
 clear CH
 rintro e w' ⟨rfl, rfl⟩
 go_wp2_with fail
 clear b9
 have hz0 : (w.alloc (.cells #[.string n] 9)).heap.size = w.heap.size + 1 := by simp
 generalize (w.alloc (.cells #[.string n] 9)) = w0 at *
 go_loopw [17] (fun i wr => ∃ k : Nat, k ≤ s.frozen.length ∧ i = .int .i64 k ∧ (s.frozen.any (fun f => f.range.has (hashS n))) = ((s.frozen.drop k).any fun f => f.range.has (hashS n)) ∧ Below w0.heap.size w0 wr) (fun i _ => s.frozen.length - (intOf i).toNat)
 case atStart => exact ⟨0, Nat.zero_le _, rfl, rfl, jb _ _⟩
 case round =>
  obtain ⟨k, hk, rfl, hno, hbl⟩ := hrel
  have HN := jh hno; clear hno
  by_cases hlt : k < s.frozen.length
  ·have hlk := jg hlt
   have hdr := List.drop_eq_getElem_cons hlt
   obtain ⟨bb, o, cs, rfl, hP, hbw, hrep, hcs⟩ := (HR.out.ext (hb0.trans (hbl.mono hb0.size))).at_ hlk
   generalize s.frozen[k] = x at hlk hrep hdr
   obtain ⟨nA, nc, pA, pc, sA, sc, rfl, hat⟩ := rec_rep.1 hrep
   unfold Rec.cells at hcs
   rw [RecR_size] at hcs
   have HCS := jh hcs
   have HDR := jh hdr
   have hlt' : (k : Int) < s.frozen.length := by omega
   clear hcs hrep hlk hat hP hbw hdr
   have hbx := hbl.tr ((jb wr.heap.size wr).al (.cells (x.cells nA nc pA pc sA sc).toArray 46))
   have BX := Blk.new wr 46 (x.cells nA nc pA pc sA sc)
   unfold Rec.cells at BX hbx
   go_upto_region 5 with (first
    | ((with_reducible refine wpList_load_at rfl rfl ?_ HCS.out Tryz.underlying46 rfl (by kernel_rfl) ?_); · rfl)
    | (refine wpList_store_new rfl rfl rfl rfl rfl (by kernel_rfl) rfl rfl ?_)
    | fail)
   generalize hw5 : wr.alloc (.cells #[.int .i64 x.kind, .int .i64 x.n, .int .i64 x.to, .bool x.yes, .int .i64 x.stamp.wall, .int .i64 x.stamp.logic, .int .i64 x.stamp.node, .int .i64 x.tx.node, .int .i64 x.tx.life, .int .i64 x.tx.num, .slice nA x.nodes.length nc, .string x.batch.key, .slice pA x.batch.puts.length pc, .int .i64 x.range.first, .int .i64 x.range.last, .int .i64 x.range.owner, .int .i64 x.range.epoch, .slice sA x.streams.length sc] 46) = w5 at *
   have c13 : w5.cell? ⟨wr.heap.size, 13, none⟩ = some (.int .i64 x.range.first) := BX.cell 13
   have c14 : w5.cell? ⟨wr.heap.size, 14, none⟩ = some (.int .i64 x.range.last) := BX.cell 14
   have c15 : w5.cell? ⟨wr.heap.size, 15, none⟩ = some (.int .i64 x.range.owner) := BX.cell 15
   have c16 : w5.cell? ⟨wr.heap.size, 16, none⟩ = some (.int .i64 x.range.epoch) := BX.cell 16
   clear hw5 BX
   go_wp2_with fail
   refine (CHS.out x.range (hashS n) w5).mono ?_
   clear c13 c14 c15 c16
   cases hq : x.range.has (hashS n)
   ·have HQ := jh hq; clear hq
    rintro e w6 ⟨rfl, hb6⟩
    have hb6' := hbx.tr hb6
    go_wp2_with fail
    go_round
    case rel => exact ⟨k + 1, by omega, by go_num, by rw [HN.out, HDR.out, List.any_cons, HQ.out]; rfl, hb6'⟩
    case measure => simp [intOf]; omega
   ·have HQ := jh hq; clear hq
    rintro e w6 ⟨rfl, hb6⟩
    have hb6' := hbx.tr hb6
    go_wp2_with fail
    go_ret
    exact ⟨ret_bool (by rw [HBS.out, HN.out, HDR.out, List.any_cons, HQ.out]; simp), hb0.trans (hb6'.mono hb0.size)⟩
  ·have hkn : k = s.frozen.length := by omega
   subst hkn
   have HF0 := jh (show (s.frozen.any fun f => f.range.has (hashS n)) = false from by rw [HN.out, List.drop_length]; rfl)
   have hlo := hb0.trans (hbl.mono hb0.size)
   have b6 : wr.cell? ⟨g, 6, none⟩ = some v.held := (HI.out.2.ext hlo).cell 6
   have BNr := jh (BN.ext hbl)
   obtain ⟨hnd, hh⟩ := HI.out.1.held
   have HLO := jh hlo
   clear BN hnd hk hlo hbl
   rcases hh with ⟨hv, hnil⟩ | ⟨m, LA, hv, hPm, hMA, hrep, hl⟩
   ·rw [hv] at b6
    go_wp2_with (first
     | (at_range; refine wpList_range_nil rfl (.tmp 29) _ rfl Tryz.underlying172 rfl ?_; intro w2 hit hb2 hz2)
     | fail)
    go_frame
    go_loopw [31] (fun _ wq => wq = w2) (fun _ _ => 0)
    case atStart => rfl
    case round =>
     obtain rfl := hrel
     go_wp2_with (first
      | (at_next; refine wpList_next_nil rfl (.tmp 30) rfl rfl hit ?_)
      | fail)
     go_ret
     exact ⟨ret_bool (by rw [HBS.out, HF0.out, hnil]; rfl), HLO.out.tr hb2⟩
   ·rw [hv] at b6
    have hMA' := hMA.ext HLO.out
    have HRP := jh (show ∀ p ∈ LA, HeldR.rep wr (fun g => P g ∧ g < wr.heap.size) p.2.2 p.2.1 from fun p hp => HeldR.mono (held_same hrep HLO.out p hp) (fun g h1 h2 => ⟨h1, h2⟩))
    have HLL := jh (show (s.held.any fun x => x.2.batch.puts.any fun p => decide (p.stream = n)) = LA.any fun p => p.2.1.batch.puts.any fun x => decide (x.stream = n) from by rw [hl, List.any_map]; rfl)
    clear hrep hl hMA hv hPm
    go_wp2_with (first
     | (at_range; refine wpList_range_map rfl (.tmp 29) _ rfl Tryz.underlying172 rfl hMA' ?_; intro w2 hit hb2 hz2)
     | fail)
    try go_frame
    clear b6 hMA'
    generalize hwo : wr = wo at *
    clear hwo
    have hzo : wo.heap.size = wo.heap.size := rfl
    go_loopw [31] (fun _ wq => ∃ left : List (Tx × (Held × List Value)), IterAt txE wq wo.heap.size m (left.map fun p => (p.1, aggV p.2.2)) ∧ (∀ p ∈ left, p ∈ LA) ∧ (LA.any fun p => p.2.1.batch.puts.any fun x => decide (x.stream = n)) = (left.any fun p => p.2.1.batch.puts.any fun x => decide (x.stream = n)) ∧ Below wo.heap.size wo wq) (fun _ wq => leftLen wq wo.heap.size m)
    case atStart => exact ⟨LA, hit, fun _ h => h, rfl, hb2⟩
    case round =>
     obtain ⟨left, hiq, hsub, hany, hbq⟩ := hrel
     have HANY := jh hany
     have HSUB := jh hsub
     have held_rep_at : ∀ {p : Tx × (Held × List Value)}, p ∈ left → HeldR.rep wr (fun g => P g ∧ g < wo.heap.size) p.2.2 p.2.1 := fun {p} hp => HeldR.same (HRP.out p (hsub p hp)) (Same.of_belowB hbq fun g hg => hg.2)
     clear hany hsub hit
     go_wp2_with (first
      | (at_next; refine wpList_next_held rfl (.tmp 30) rfl rfl hiq (fun p hp => held_rep_at hp) (fun h0 => ?_) (fun i t h pA fA pc fc w3 hp hrow hit3 hO3 hz3 hen => ?_))
      | fail)
     ·go_ret
      exact ⟨ret_bool (by rw [HBS.out, HF0.out, HLL.out, HANY.out, h0]; rfl), HLO.out.tr hbq⟩
     ·have hb3 : Below wo.heap.size wo w3 := hbq.trans (hO3.low (fun g hg => by rw [hg]; omega) hbq.size)
      have hb4 := hb3.al (.cells #[.int .i64 h.tx.node, .int .i64 h.tx.life, .int .i64 h.tx.num, .string h.batch.key, .slice pA h.batch.puts.length pc, .int .i64 h.stamp.wall, .int .i64 h.stamp.logic, .int .i64 h.stamp.node, .slice fA h.firsts.length fc] 192)
      have hrow4 := (hrow.2.2.same (Same.of_only hO3 fun g hg e => by have e' : g = wo.heap.size := e; have := hg.2; omega) (by omega)).ext ((jb w3.heap.size w3).al (.cells #[.int .i64 h.tx.node, .int .i64 h.tx.life, .int .i64 h.tx.num, .string h.batch.key, .slice pA h.batch.puts.length pc, .int .i64 h.stamp.wall, .int .i64 h.stamp.logic, .int .i64 h.stamp.node, .slice fA h.firsts.length fc] 192))
      have BN4 := BNr.out.ext hb4
      have hit4 := hit3.ext ((jb w3.heap.size w3).al (.cells #[.int .i64 h.tx.node, .int .i64 h.tx.life, .int .i64 h.tx.num, .string h.batch.key, .slice pA h.batch.puts.length pc, .int .i64 h.stamp.wall, .int .i64 h.stamp.logic, .int .i64 h.stamp.node, .slice fA h.firsts.length fc] 192))
      have hlen4 : (left.eraseIdx i).length < left.length := by
       have := (List.getElem?_eq_some_iff.1 hp).1
       rw [List.length_eraseIdx, if_pos this]; omega
      have hleft := hiq.len
      have C := hasF_Put 210 [.pointer (some ⟨w.heap.size, 0, none⟩)] (fun x => decide (x.stream = n)) enters_busy pA pc h.batch.puts _ (w3.alloc (.cells #[.int .i64 h.tx.node, .int .i64 h.tx.life, .int .i64 h.tx.num, .string h.batch.key, .slice pA h.batch.puts.length pc, .int .i64 h.stamp.wall, .int .i64 h.stamp.logic, .int .i64 h.stamp.node, .slice fA h.firsts.length fc] 192)) hrow4 (by have := hrow.1; have := hrow.2.1; omega) (fun a cs W ha hra hb => by
       obtain ⟨Ax, cx, rfl, _⟩ := put_rep.1 hra
       exact busyAt_any n w.heap.size a Ax cx W ((BN4.ext hb).cell 0))
      have H4 := jh (ja hb4 (ja hit4 (ja hlen4 hleft)))
      have HP := jh hp
      clear hb3 hb4 hrow4 BN4 hit4 hlen4 hleft hen hit3 hO3 hz3 hrow hp hiq held_rep_at
      refine C.mono ?_
      clear C
      cases hq : h.batch.puts.any fun x => decide (x.stream = n)
      ·have HQ := jh hq; clear hq
       rintro e w5 ⟨rfl, hb5⟩
       have hb5' := H4.out.1.tr hb5
       have hit5 := H4.out.2.1.ext hb5
       go_wp2_with fail
       go_round
       case rel => exact ⟨left.eraseIdx i, hit5, fun p hp => HSUB.out p (List.mem_of_mem_eraseIdx hp), any_erase HANY.out HP.out HQ.out, hb5'⟩
       case measure =>
        have h1 := hit5.len
        have h2 := H4.out.2.2.1
        have h3 := H4.out.2.2.2
        simp only [List.length_map] at h1 h3
        omega
      ·have HQ := jh hq; clear hq
       rintro e w5 ⟨rfl, hb5⟩
       have hb5' := H4.out.1.tr hb5
       go_wp2_with fail
       go_ret
       refine ⟨ret_bool ?_, HLO.out.tr hb5'⟩
       rw [HBS.out, HF0.out, HLL.out, Bool.false_or, eq_comm, List.any_eq_true]
       exact ⟨_, HSUB.out _ (List.mem_of_getElem? HP.out), HQ.out⟩
end Go.Proofs.YtcmjgghkmdbphaaGreatDoor
namespace Go.Proofs.YtcmjgghkmdbphaaGreatDoor
open Go.RowKit
theorem knownL_drop (T : Tab) (k : Str) (l : List Put) (j : Nat) (a : List Int × Known × Bool) (h : j < l.length) : knownL T k (l.drop j) a =
 if (knownT T l[j].stream k).2 then knownL T k (l.drop (j + 1)) (a.1 ++ [(knownT T l[j].stream k).1.first], (if a.1.length = 0 then (knownT T l[j].stream k).1 else a.2.1), a.2.2 || decide ((knownT T l[j].stream k).1.stamp ≠ (if a.1.length = 0 then (knownT T l[j].stream k).1 else a.2.1).stamp))
 else knownL T k (l.drop (j + 1)) a := by
 rw [List.drop_eq_getElem_cons h]; rfl
theorem int_plain : IntR.Plain := fun _ _ _ _ _ _ h => h
def Got3 (B : Nat) (q : List Int × Known × Int) (e : Ending) (w' : World) : Prop :=
 ∃ v, e = .returned (.tuple #[v, .agg #[.string q.2.1.key, .int .i64 q.2.1.first, .int .i64 q.2.1.stamp.wall, .int .i64 q.2.1.stamp.logic, .int .i64 q.2.1.stamp.node], .int .i64 q.2.2]) ∧ IntR.Own w' B 3 (fun _ => False) v q.1
theorem results_mid {P : Program} {fn : Func} {p u z : Tmp} {ty : TypeId} (h : fn.results = #[.tmp z, .cell p ty, .tmp u]) (tmps : Array Value) {w : World} {g : Nat} {t : TypeId} {cs : List Value} {d : TypeDesc}
 (hg : Blk w g t cs) (hp : tmps.getD p undef = .pointer (some ⟨g, 0, none⟩))
 (hu : P.underlying ty = some d) (hd : (match d with | .struct _ | .array _ _ => true | _ => false) = true) (hi : (P.info? ty).map (·.size) = some cs.length) :
 (results fn tmps).run P w = .ok (.tuple #[tmps.getD z undef, .agg cs.toArray, tmps.getD u undef]) w := by
 have hr := run_loadVar_row (P := P) w g t ty cs.toArray (0, 0) d hg hu hd (by simpa using hi)
 have hp' : tmps[p]?.getD undef = .pointer (some ⟨g, 0, none⟩) := by simpa using hp
 simp [results, h, hp', asAddr, hr]
def KnB (g : Nat) (x : Known) (W : World) : Prop := Blk W g 49 x.cells
section
variable {g : Nat} {x : Known}
theorem KnB.c0 (d : Wd (KnB g x)) : d.w.cell? ⟨g, 0, none⟩ = some (.string x.key) := Blk.cell d.ok 0
theorem KnB.c1 (d : Wd (KnB g x)) : d.w.cell? ⟨g, 1, none⟩ = some (.int .i64 x.first) := Blk.cell d.ok 1
theorem KnB.c2 (d : Wd (KnB g x)) : d.w.cell? ⟨g, 2, none⟩ = some (.int .i64 x.stamp.wall) := Blk.cell d.ok 2
theorem KnB.c3 (d : Wd (KnB g x)) : d.w.cell? ⟨g, 3, none⟩ = some (.int .i64 x.stamp.logic) := Blk.cell d.ok 3
theorem KnB.c4 (d : Wd (KnB g x)) : d.w.cell? ⟨g, 4, none⟩ = some (.int .i64 x.stamp.node) := Blk.cell d.ok 4
end
theorem wpList_store_blk {P : Program} {ops : Array Oper} {rest : List Oper} {o : Oper} {a : Act} {w : World} {Q : Exit → Act → World → Prop} (hgd : o.guard = none) (hdst : o.dst = none) {ty : TypeId} {x y : Operand} (ho : o.op = .store ty x y) {g : Nat} {t : TypeId} {old cs : List Value} (hx : a.eval x = .pointer (some ⟨g, 0, none⟩)) (hy : a.eval y = .agg cs.toArray)
 (hB : Blk w g t old) (hi : (P.info? ty).map (·.size) = some cs.length) (hold : old.length = cs.length) (h1 : cs.all (·.oneCell') = true)
 (h : ∀ w', Blk w' g t cs → Only (fun k => k = g) w w' → w'.heap.size = w.heap.size → wpList P ops Q rest a w') : wpList P ops Q (o :: rest) a w := by
 refine wpList_plain hgd fun K' hK' => ?_
 have hr := run_storeVar_row (P := P) w g t ty old.toArray cs.toArray hB (by simpa using hi) (by simpa using hold) (by simpa using h1)
 unfold Oper.wp execOp
 simp only [ho, hx, hy, Instr.storeAt, Instr.sureAddr, Sem.run_bind, Sem.run_pure, Result.andThen_ok, hr, Oper.upon, hdst, Act.put]
 refine hK' _ _ (h _ ?_ ?_ ?_)
 ·unfold Blk at hB ⊢
  simp only [World.setRow, Array.getElem?_modify, if_true, hB, Option.map_some]
 ·refine ⟨rfl, rfl, rfl, by simp [World.setRow], fun k hk hn => ?_⟩
  simp only [World.setRow, Array.getElem?_modify]
  rw [if_neg (fun e => hn e.symm)]
 ·simp [World.setRow]
theorem known_any' (g : Nat) (s : St) (b : Batch) (A : Option Addr) (c : Nat) (P Q : Nat → Prop) (w : World) (h : StAt w P g s) (hr : PutR.Row w Q A b.puts) (hl : b.puts.length ≤ 8) (hT : ∀ n k, (knownT s.table n k).1.fit) :
 Calls Tryz.prog 113 #[ptrV g, .agg #[.string b.key, .slice A b.puts.length c]] w fun e w' => Got3 w.heap.size (knownS s b) e w' ∧ Below w.heap.size w w' := by
 obtain ⟨v, hB, hI⟩ := h
 have HTB := jh hI.table
 have HB := jh hB
 have HR := jh (hr.mono (Q := fun g => g < w.heap.size) fun g _ h => h)
 have HK := jh (show knownS s b = if b.key.toList = [] then ([], zeroKnown, 0) else if (knownL s.table b.key b.puts ([], zeroKnown, false)).1.length = 0 then ([], zeroKnown, 0) else if (knownL s.table b.key b.puts ([], zeroKnown, false)).1.length < b.puts.length ∨ (knownL s.table b.key b.puts ([], zeroKnown, false)).2.2 = true then ([], zeroKnown, 1) else ((knownL s.table b.key b.puts ([], zeroKnown, false)).1, (knownL s.table b.key b.puts ([], zeroKnown, false)).2.1, 4) from rfl)
 have HTT := jh hT
 have CK := jh (fun n k W (hW : Below w.heap.size w W) => knownT_any v.tb s.table n k P W (hI.table.ext hW))
 unfold KnownV at CK
 clear hr hB hI hT
 by_cases hk : b.key.toList = []
 ·have HKE := jh (show knownS s b = ([], zeroKnown, 0) from by rw [HK.out, if_pos hk])
  have hk2 : (!b.key.toList.isEmpty) = false := by rw [hk]; rfl
  unfold ptrV
  go_enter Tryz.func113, Tryz.ntmps113
  go_wp2_with fail
  rw [HKE.out]
  exact bodyPost_ret (results_mid rfl _ (Blk.new1 w _ 49 [.string ⟨#[]⟩, .int .i64 0, .int .i64 0, .int .i64 0, .int .i64 0]) (by rfl) Tryz.underlying49 rfl (by kernel_rfl)) rfl ⟨⟨_, rfl, Rep.Own.nil_⟩, ((jb _ _).al _).al _⟩
 have hk2 : (!b.key.toList.isEmpty) = true := by cases h : b.key.toList with | nil => exact absurd h hk | cons a b => rfl
 have hk3 : b.key.toList.isEmpty = false := by simpa using hk2
 have HKN := jh hk
 unfold ptrV
 go_enter Tryz.func113, Tryz.ntmps113
 go_upto_region 4 with fail
 have B0 := (Blk.new w 25 [.string b.key, .slice A b.puts.length c]).alloc (.cells #[.string ⟨#[]⟩, .int .i64 0, .int .i64 0, .int .i64 0, .int .i64 0] 49)
 have B1 := Blk.new1 w (.cells #[.string b.key, .slice A b.puts.length c] 25) 49 [.string ⟨#[]⟩, .int .i64 0, .int .i64 0, .int .i64 0, .int .i64 0]
 have hb1 := ((jb w.heap.size w).al (.cells #[.string b.key, .slice A b.puts.length c] 25)).al (.cells #[.string ⟨#[]⟩, .int .i64 0, .int .i64 0, .int .i64 0, .int .i64 0] 49)
 have hs1 : ((w.alloc (.cells #[.string b.key, .slice A b.puts.length c] 25)).alloc (.cells #[.string ⟨#[]⟩, .int .i64 0, .int .i64 0, .int .i64 0, .int .i64 0] 49)).heap.size = w.heap.size + 2 := by simp
 refine forget (M := fun W => Code.wp _ _ _ _ W) (fun W => Below w.heap.size w W ∧ Blk W w.heap.size 25 [.string b.key, .slice A b.puts.length c] ∧ Blk W (w.heap.size + 1) 49 zeroKnown.cells ∧ W.heap.size = w.heap.size + 2) ⟨hb1, B0, B1, hs1⟩ ?_
 clear B0 B1 hb1 hs1
 rintro w1 ⟨hb1, B0, B1, hs1⟩
 have x1 : w1.cell? ⟨w.heap.size, 1, none⟩ = some (.slice A b.puts.length c) := B0.cell 1
 have HB0 := jh (ja B0 hs1)
 go_wp2_with fail
 clear x1
 go_loopw [4, 7, 19] (fun fv uv i wr => ∃ (k : Nat) (fl : List Int) (x : Known) (u : Bool), k ≤ b.puts.length ∧ i = .int .i64 k ∧ uv = .bool u ∧ fl.length ≤ k ∧ IntR.Own wr w1.heap.size 3 (fun _ => True) fv fl ∧ Blk wr (w.heap.size + 1) 49 x.cells ∧
  knownL s.table b.key (b.puts.drop k) (fl, x, u) = knownL s.table b.key b.puts ([], zeroKnown, false) ∧ Only (fun g => g = w.heap.size + 1 ∨ w1.heap.size ≤ g) w1 wr) (fun _ _ i _ => b.puts.length - (intOf i).toNat)
 case atStart => exact ⟨0, [], zeroKnown, false, Nat.zero_le _, rfl, rfl, Nat.le_refl _, Rep.Own.nil_, B1, rfl, Only.refl _ _⟩
 case round =>
  clear B0 B1 hs1
  obtain ⟨k, fl, x, u, hkl, rfl, rfl, hfl, hfo, hBx, hkn, hO⟩ := hrel
  have hs1 := HB0.out.2
  have hlo : Below w.heap.size w wr := hb1.trans (hO.low (fun g hg => by rcases hg with h | h <;> omega) (by omega))
  have hBb : Blk wr w.heap.size 25 [.string b.key, .slice A b.puts.length c] := HB0.out.1.only hO (fun h => by rcases h with h | h <;> omega)
  by_cases hlt : k < b.puts.length
  ·have hlk := jg hlt
   have hkd := knownL_drop s.table b.key b.puts k (fl, x, u) hlt
   obtain ⟨bb, o, cs, hAe, hP, hbw, hrep, hcs⟩ := (HR.out.ext hlo).at_ hlk
   generalize b.puts[k] = p at hlk hkd hrep
   subst hAe
   obtain ⟨Ad, cd, rfl, _, _, _, _, _⟩ := put_rep.1 hrep
   have c0 := hcs 0 _ rfl; have c1 := hcs 1 _ rfl; have c2 := hcs 2 _ rfl; simp only [PutR_size, Nat.add_zero] at c0 c1 c2
   have hlt' : (k : Int) < b.puts.length := by omega
   have hq : (knownT s.table p.stream b.key).1.fit := HTT.out _ _
   have CK' := CK.out p.stream b.key
   clear hcs hrep hlk hP hbw
   generalize knownT s.table p.stream b.key = q at *
   have HKD := jh (ja hkd (ja hkn hq))
   clear hkd hkn hq
   go_upto_region 7 with fail
   have hb2 := (jb wr.heap.size wr).al (.cells #[.string p.stream, .int .i64 p.expect, .slice Ad p.data.length cd] 69)
   have BP := Blk.new wr 69 [.string p.stream, .int .i64 p.expect, .slice Ad p.data.length cd]
   have hfo2 := hfo.ext hb2
   have hBx2 := hBx.ext hb2
   have hO2 := hO.tr (jo hb2)
   have hlo2 := hlo.trans (hb2.mono hlo.size)
   have y0 := On.cell (BP.cell 0)
   have y1 := On.cell ((hBb.ext hb2).cell 0)
   have y5 := On.cell ((HB.out.ext hlo2).cell 5 : _ = some (ptrV v.tb))
   unfold ptrV at y5 CK'
   clear c0 c1 c2 hb2 BP hfo hBx hO hlo hBb
   generalize (wr.alloc (.cells #[.string p.stream, .int .i64 p.expect, .slice Ad p.data.length cd] 69)) = w2 at *
   have hz2 := hlo2.size
   have HG := jh (ja hfo2 (ja hBx2 (ja hO2 hlo2)))
   clear hfo2 hBx2 hO2
   go_cut [10, 11] (fun kv ov wx => ∃ kb, kv = .pointer (some ⟨kb, 0, none⟩) ∧ ov = .bool q.2 ∧ Blk wx kb 49 q.1.cells ∧ Below w2.heap.size w2 wx ∧ w2.heap.size ≤ kb)
   case first =>
    refine wp_region_mix (.fork [0, 1, 2, 3, 4, 5, 6, 7] 8 (.seg [9, 10, 11] 12 (.seg [] 13 (.leaf [14]))) 12 (.seg [] 8 (.seg [9, 10, 11] 13 (.leaf [14])))) (fun w' => ∃ d : Wd (On w2), w' = d.w) (by kernel_rfl) (by kernel_rfl) (fun _ _ d _ _ h => by cases d <;> exact h) (ClsW.mk (jb _ _).drew) ?_
    unfold wpMix; simp only [pick, j1, j2, j3, j4]
    (repeat (show wpQuiet _ _ _ _ (_ :: _) _; go_big_quiet_step (fail))); refine qn ?_
    constructor
    ·go_wp2_with fail
     refine (CK' w2.drew hlo2.drew).mono ?_
     rintro e w3 ⟨rfl, hb3'⟩
     have hb3 : Below w2.heap.size w2 w3 := (jb _ w2).drew.tr hb3'
     clear hb3' CK'
     go_wp2_with fail
     dsimp only [wpList, SegQ]
     refine ⟨fun w' => ∃ d : Wd (On w2), w' = d.w, ClsW.mk hb3, fun _ h => h, ?_⟩
     unfold wpMix; simp only [pick, j1, j2, j3, j4]
     (repeat (show wpQuiet _ _ _ _ (_ :: _) _; go_big_quiet_step (fail))); refine qn ?_
     go_wp2_with fail
     have hb4 := hb3.al (.cells #[.string ⟨#[]⟩, .int .i64 0, .int .i64 0, .int .i64 0, .int .i64 0] 49)
     have BK := Blk.new w3 49 [.string ⟨#[]⟩, .int .i64 0, .int .i64 0, .int .i64 0, .int .i64 0]
     have hz3 := hb3.size
     dsimp only [wpList, SegQ]
     refine ⟨fun w' => ∃ d : Wd (On w2), w' = d.w, ClsW.mk hb4, fun _ h => h, ?_⟩
     unfold wpMix; simp only [pick, j1, j2, j3, j4]
     (repeat (show wpQuiet _ _ _ _ (_ :: _) _; go_big_quiet_step (fail))); refine qn ?_
     refine wpList_store_new (cs := q.1.cells.toArray) rfl rfl rfl rfl rfl (by kernel_rfl) rfl (by simp [Known.cells, Value.oneCell']) ?_
     have hb5 := hb3.al (.cells q.1.cells.toArray 49)
     dsimp only [wpList, SegQ]
     refine ⟨fun w' => ∃ d : Wd (On w2), w' = d.w, ClsW.mk hb5, fun _ h => h, ?_⟩
     unfold wpMix; simp only [pick, j1, j2, j3, j4]
     (repeat (show wpQuiet _ _ _ _ (_ :: _) _; go_big_quiet_step (fail))); refine qn ?_
     have HZ := jh (ja (Blk.new w3 49 q.1.cells) (ja hb5 hz3))
     go_wp2_with fail
     go_meet
     exact ⟨_, rfl, rfl, HZ.out.1, HZ.out.2.1, HZ.out.2.2⟩
    ·go_wp2_with fail
     have hb4 := ((jb w2.heap.size w2).al (.cells #[.string ⟨#[]⟩, .int .i64 0, .int .i64 0, .int .i64 0, .int .i64 0] 49)).drew
     dsimp only [wpList, SegQ]
     refine ⟨fun w' => ∃ d : Wd (On w2), w' = d.w, ClsW.mk hb4, fun _ h => h, ?_⟩
     unfold wpMix; simp only [pick, j1, j2, j3, j4]
     (repeat (show wpQuiet _ _ _ _ (_ :: _) _; go_big_quiet_step (fail))); refine qn ?_
     go_wp2_with fail
     refine (CK' _ (hlo2.trans (hb4.mono hz2))).mono ?_
     rintro e w3 ⟨rfl, hb3'⟩
     have BK := ((Blk.new w2 49 [.string ⟨#[]⟩, .int .i64 0, .int .i64 0, .int .i64 0, .int .i64 0]).ext (jb _ _).drew).ext hb3'
     have hb5 : Below w2.heap.size w2 w3 := hb4.tr hb3'
     clear hb3' CK'
     have k0 := BK.cell 0
     have k1 := BK.cell 1
     have k2 := BK.cell 2
     have k3 := BK.cell 3
     have k4 := BK.cell 4
     have f0 := BK.frozen 0
     have f1 := BK.frozen 1
     have f2 := BK.frozen 2
     have f3 := BK.frozen 3
     have f4 := BK.frozen 4
     have HBK := jh BK
     clear BK
     simp only [List.getElem?_cons_zero, List.getElem?_cons_succ] at k0 k1 k2 k3 k4
     go_wp2_with fail
     dsimp only [wpList, SegQ]
     refine ⟨fun w' => ∃ d : Wd (On w2), w' = d.w, ClsW.mk hb5, fun _ h => h, ?_⟩
     unfold wpMix; simp only [pick, j1, j2, j3, j4]
     (repeat (show wpQuiet _ _ _ _ (_ :: _) _; go_big_quiet_step (fail))); refine qn ?_
     go_wp2_with fail
     dsimp only [wpList, SegQ]
     refine ⟨fun w' => ∃ d : Wd (On w2), w' = d.w, ClsW.mk (D := On w2) (by unfold On; repeat (first | exact hb5 | refine Below.st ?_ (Nat.le_refl _) _)), fun _ h => h, ?_⟩
     unfold wpMix; simp only [pick, j1, j2, j3, j4]
     (repeat (show wpQuiet _ _ _ _ (_ :: _) _; go_big_quiet_step (fail))); refine qn ?_
     go_wp2_with fail
     go_meet
     exact ⟨_, rfl, rfl, ((((HBK.out.set_ 0 (.string q.1.key)).set_ 1 (.int .i64 q.1.first)).set_ 2 (.int .i64 q.1.stamp.wall)).set_ 3 (.int .i64 q.1.stamp.logic)).set_ 4 (.int .i64 q.1.stamp.node), (by repeat (first | exact hb5 | refine Below.st ?_ (Nat.le_refl _) _)), Nat.le_refl _⟩
   case rest =>
    obtain ⟨kb, rfl, rfl, hKB, hbc, hkb⟩ := hcut
    obtain ⟨hfo2, hBx2, hO2, hlo2'⟩ := HG.out
    have hfo3 := hfo2.ext hbc
    have hBx3 := hBx2.ext hbc
    have hO3 := hO2.tr (jo hbc)
    have hzc := hbc.size
    obtain ⟨kn, ok⟩ := q
    simp only at hKB HKD
    cases ok
    ·have HZ := jh (ja hfo3 (ja hBx3 hO3))
     clear hfo2 hBx2 hO2 hlo2' hfo3 hBx3 hO3 hKB y0 y1 y5
     go_wp2_with fail
     go_round
     case rel =>
      refine ⟨k + 1, fl, x, u, by omega, by go_num, rfl, by omega, HZ.out.1, HZ.out.2.1, ?_, HZ.out.2.2⟩
      rw [← HKD.out.2.1, HKD.out.1]; rfl
     case measure => simp [intOf]; omega
    ·have k0 : wc.cell? ⟨kb, 0, none⟩ = some (.string kn.key) := hKB.cell 0
     have k1 : wc.cell? ⟨kb, 1, none⟩ = some (.int .i64 kn.first) := hKB.cell 1
     have k2 : wc.cell? ⟨kb, 2, none⟩ = some (.int .i64 kn.stamp.wall) := hKB.cell 2
     have k3 : wc.cell? ⟨kb, 3, none⟩ = some (.int .i64 kn.stamp.logic) := hKB.cell 3
     have k4 : wc.cell? ⟨kb, 4, none⟩ = some (.int .i64 kn.stamp.node) := hKB.cell 4
     clear y0 y1 y5
     obtain ⟨Ao, co, hu4, _⟩ := hfo3.form
     subst hu4
     have hfb : w.heap.size + 1 < w2.heap.size := by have := hO2.size; omega
     have HXX := jh (show ∃ x', (if fl.length = 0 then kn else x) = x' from ⟨_, rfl⟩)
     obtain ⟨x', hx'⟩ := HXX.out
     have HX := jh hx'
     clear hx' HXX
     go_upto_if 39 with fail
     go_cut [] (fun wx => Blk wx (w.heap.size + 1) 49 x'.cells ∧ Blk wx kb 49 kn.cells ∧ IntR.Own wx w1.heap.size 3 (fun _ => True) (.slice Ao fl.length co) fl ∧ Only (fun g => g = w.heap.size + 1 ∨ w1.heap.size ≤ g) w1 wx)
     case first =>
      by_cases hf0 : fl.length = 0
      ·have g0 : ((fl.length : Int) == 0) = true := by rw [beq_iff_eq]; omega
       have HXE := jh (show kn = x' from by have := HX.out; rwa [if_pos hf0] at this)
       have f0 := hBx3.frozen 0
       have f1 := hBx3.frozen 1
       have f2 := hBx3.frozen 2
       have f3 := hBx3.frozen 3
       have f4 := hBx3.frozen 4
       have z0 := hBx3.cell 0
       have z1 := hBx3.cell 1
       have z2 := hBx3.cell 2
       have z3 := hBx3.cell 3
       have z4 := hBx3.cell 4
       simp only [Known.cells, List.getElem?_cons_zero, List.getElem?_cons_succ] at z0 z1 z2 z3 z4
       have HH := jh (ja hBx3 (ja hKB (ja hfo3 hO3)))
       have hne : (Value.slice Ao fl.length co).ownBlock ≠ some (w.heap.size + 1) := by
        obtain ⟨xs, hx, _⟩ := hfo3
        exact own_blk_ne hx hBx3 (by decide)
       have HNE := jh hne
       clear hBx3 hKB hfo3 hO3 hf0 hne hfo2 hBx2 hO2 hlo2'
       simp only [g0]
       go_wp2_with fail
       go_meet
       obtain ⟨hBx3, hKB, hfo3, hO3⟩ := HH.out
       have hS : Only (fun g => g = w.heap.size + 1) wc _ := ((((Only.set_ (w := wc) (F := fun g => g = w.heap.size + 1) (p := ⟨w.heap.size + 1, 0, none⟩) rfl (.string kn.key)).tr (Only.set_ (F := fun g => g = w.heap.size + 1) (p := ⟨w.heap.size + 1, 1, none⟩) rfl (.int .i64 kn.first))).tr (Only.set_ (F := fun g => g = w.heap.size + 1) (p := ⟨w.heap.size + 1, 2, none⟩) rfl (.int .i64 kn.stamp.wall))).tr (Only.set_ (F := fun g => g = w.heap.size + 1) (p := ⟨w.heap.size + 1, 3, none⟩) rfl (.int .i64 kn.stamp.logic))).tr (Only.set_ (F := fun g => g = w.heap.size + 1) (p := ⟨w.heap.size + 1, 4, none⟩) rfl (.int .i64 kn.stamp.node))
       refine ⟨?_, hKB.only hS (fun h => by have : kb = w.heap.size + 1 := h; omega), ((hfo3.plain (S' := fun _ => False) int_plain).only hS (fun _ h => h.elim) (fun g hg h => HNE.out (by rw [hg, show g = w.heap.size + 1 from h]))).plain int_plain, hO3.tr (hS.mono (fun g h => .inl h))⟩
       rw [← HXE.out]
       exact ((((hBx3.set_ 0 (.string kn.key)).set_ 1 (.int .i64 kn.first)).set_ 2 (.int .i64 kn.stamp.wall)).set_ 3 (.int .i64 kn.stamp.logic)).set_ 4 (.int .i64 kn.stamp.node)
      ·have g0 : ((fl.length : Int) == 0) = false := by rw [beq_eq_false_iff_ne]; omega
       have HXE := jh (show x = x' from by have := HX.out; rwa [if_neg hf0] at this)
       have HH := jh (ja hBx3 (ja hKB (ja hfo3 hO3)))
       clear hBx3 hKB hfo3 hO3 hf0 hfo2 hBx2 hO2 hlo2'
       simp only [g0]
       go_wp2_with fail
       go_meet
       rw [← HXE.out]
       exact ⟨HH.out.1, HH.out.2.1, HH.out.2.2.1, HH.out.2.2.2⟩
     case rest =>
      obtain ⟨hBX, hKK, hfo4, hO4⟩ := hcut
      have k1 : wc.cell? ⟨kb, 1, none⟩ = some (.int .i64 kn.first) := hKK.cell 1
      have hO4z := hO4.size
      obtain ⟨i0, e1, e2, e3, e4⟩ := info_parts int_info
      have hrx : IntR.rep wc (fun _ => False) [.int .i64 kn.first] kn.first := ⟨rfl, HKD.out.2.2.2.1⟩
      have HH := jh (ja hBX (ja hKK hO4))
      have HFO := jh hfo4
      clear hBX hKK hO4 hBx3 hKB hfo3 hO3 hfo2 hBx2 hO2 hlo2' k0 k2 k3 k4
      go_upto_region 12 with (first
       | (at_builtin; refine wpList_append_new (R := IntR) wc rfl (.tmp 41) (.tmp 44) _ rfl w1.heap.size 3 i0 _ 8 Tryz.underlying43 e1 e2 e3 e4 rfl _ fl (fun _ => True) rfl hfo4 (fun _ _ => trivial) rfl (fun _ => False) _ hrx (fun _ h => h.elim) (by unfold maxLen; omega) (by omega) hO4z ?_; intro v1 w6 ho1 hg1 hat1 hn1 hb6)
       | fail)
      have hO6 := HH.out.2.2.trans (Only.of_belowB (F := fun g => w1.heap.size ≤ g) hb6 (fun g h => h)) (fun g _ h => .inr h)
      have hne1 : ∀ t cs gg, Blk wc gg t cs → 3 ≠ t → (Value.slice Ao fl.length co).ownBlock ≠ some gg := fun t cs gg hb ht => by
       obtain ⟨xs, hx, _⟩ := HFO.out
       exact own_blk_ne hx hb ht
      have hX6 := HH.out.1.only (Only.grown hg1 (F := fun g => (Value.slice Ao fl.length co).ownBlock = some g) (fun g hg => hg)) (hne1 _ _ _ HH.out.1 (by decide))
      have hK6 := HH.out.2.1.only (Only.grown hg1 (F := fun g => (Value.slice Ao fl.length co).ownBlock = some g) (fun g hg => hg)) (hne1 _ _ _ HH.out.2.1 (by decide))
      have k2 : w6.cell? ⟨kb, 2, none⟩ = some (.int .i64 kn.stamp.wall) := hK6.cell 2
      have k3 : w6.cell? ⟨kb, 3, none⟩ = some (.int .i64 kn.stamp.logic) := hK6.cell 3
      have k4 : w6.cell? ⟨kb, 4, none⟩ = some (.int .i64 kn.stamp.node) := hK6.cell 4
      have x2 : w6.cell? ⟨w.heap.size + 1, 2, none⟩ = some (.int .i64 x'.stamp.wall) := hX6.cell 2
      have x3 : w6.cell? ⟨w.heap.size + 1, 3, none⟩ = some (.int .i64 x'.stamp.logic) := hX6.cell 3
      have x4 : w6.cell? ⟨w.heap.size + 1, 4, none⟩ = some (.int .i64 x'.stamp.node) := hX6.cell 4
      have HZ := jh (ja ho1 (ja hX6 hO6))
      have HEND := jh (show ∀ u', u' = (u || decide (kn.stamp ≠ x'.stamp)) → knownL s.table b.key (b.puts.drop (k + 1)) (fl ++ [kn.first], x', u') = knownL s.table b.key b.puts ([], zeroKnown, false) from fun u' hu' => by
       rw [← HKD.out.2.1, HKD.out.1, hu']
       simp only [if_true, HX.out])
      clear ho1 hX6 hO6 hK6 hne1 hg1 hat1 hn1 hb6 hrx e1 e2 e3 e4 hfo4 k1
      cases u
      ·have hcase : (kn.stamp.wall ≠ x'.stamp.wall) ∨ (kn.stamp.wall = x'.stamp.wall ∧ kn.stamp.logic ≠ x'.stamp.logic) ∨ (kn.stamp.wall = x'.stamp.wall ∧ kn.stamp.logic = x'.stamp.logic ∧ kn.stamp.node ≠ x'.stamp.node) ∨
        (kn.stamp.wall = x'.stamp.wall ∧ kn.stamp.logic = x'.stamp.logic ∧ kn.stamp.node = x'.stamp.node) := by
        by_cases kn.stamp.wall = x'.stamp.wall <;> by_cases kn.stamp.logic = x'.stamp.logic <;> by_cases kn.stamp.node = x'.stamp.node <;> simp [*]
       rcases hcase with gg | gg | gg | gg
       ·have G := jh gg
        (have g3 : (kn.stamp.wall == x'.stamp.wall) = false := by rw [beq_eq_false_iff_ne] ; exact gg)
        clear gg
        go_wp2_with fail
        go_round
        case rel =>
         refine ⟨k + 1, fl ++ [kn.first], x', true, by omega, by go_num, rfl, by simp; omega, HZ.out.1, HZ.out.2.1, HEND.out _ ?_, HZ.out.2.2⟩
         have hne : kn.stamp ≠ x'.stamp := fun e => G.out (by rw [e])
         simp [hne]
        case measure => simp [intOf]; omega
       ·have G := jh gg
        (rw [gg.1] at k2) ; (have g3 : (kn.stamp.logic == x'.stamp.logic) = false := by rw [beq_eq_false_iff_ne] ; exact gg.2)
        clear gg
        go_wp2_with fail
        go_round
        case rel =>
         refine ⟨k + 1, fl ++ [kn.first], x', true, by omega, by go_num, rfl, by simp; omega, HZ.out.1, HZ.out.2.1, HEND.out _ ?_, HZ.out.2.2⟩
         have hne : kn.stamp ≠ x'.stamp := fun e => G.out.2 (by rw [e])
         simp [hne]
        case measure => simp [intOf]; omega
       ·have G := jh gg
        (rw [gg.1] at k2) ; (rw [gg.2.1] at k3) ; (have g3 : (kn.stamp.node == x'.stamp.node) = false := by rw [beq_eq_false_iff_ne] ; exact gg.2.2)
        clear gg
        go_wp2_with fail
        go_round
        case rel =>
         refine ⟨k + 1, fl ++ [kn.first], x', true, by omega, by go_num, rfl, by simp; omega, HZ.out.1, HZ.out.2.1, HEND.out _ ?_, HZ.out.2.2⟩
         have hne : kn.stamp ≠ x'.stamp := fun e => G.out.2.2 (by rw [e])
         simp [hne]
        case measure => simp [intOf]; omega
       ·have G := jh gg
        rw [gg.1] at k2
        rw [gg.2.1] at k3
        rw [gg.2.2] at k4
        clear gg
        go_wp2_with fail
        go_round
        case rel =>
         refine ⟨k + 1, fl ++ [kn.first], x', false, by omega, by go_num, rfl, by simp; omega, HZ.out.1, HZ.out.2.1, HEND.out _ ?_, HZ.out.2.2⟩
         have hst : kn.stamp = x'.stamp := by
          have := G.out
          obtain ⟨y1, y2, ⟨y3, y4, y5⟩⟩ := kn
          obtain ⟨x1, x2, ⟨x3, x4, x5⟩⟩ := x'
          simp only at this ⊢
          rw [this.1, this.2.1, this.2.2]
         simp [hst]
        case measure => simp [intOf]; omega
      ·go_wp2_with fail
       go_round
       case rel => exact ⟨k + 1, fl ++ [kn.first], x', true, by omega, by go_num, rfl, by simp; omega, HZ.out.1, HZ.out.2.1, HEND.out _ rfl, HZ.out.2.2⟩
       case measure => simp [intOf]; omega
  ·have hkn' : k = b.puts.length := by omega
   subst hkn'
   rw [List.drop_length] at hkn
   have HKN2 := jh (show knownL s.table b.key b.puts ([], zeroKnown, false) = (fl, x, u) from hkn.symm)
   have y1 : wr.cell? ⟨w.heap.size, 1, none⟩ = some (.slice A b.puts.length c) := hBb.cell 1
   obtain ⟨Ao, co, hu4, _⟩ := hfo.form
   subst hu4
   have HH := jh (ja hlo (ja hfo hBx))
   have hzl := hlo.size
   by_cases hf0 : fl.length = 0
   ·have g0 : ((fl.length : Int) == 0) = true := by rw [beq_iff_eq]; omega
    have HKE := jh (show knownS s b = ([], zeroKnown, 0) from by rw [HK.out, if_neg HKN.out, HKN2.out, if_pos hf0])
    clear hkn hBx hO hfo hlo hBb hf0
    go_wp2_with (first
     | (refine wpList_store_blk (cs := zeroKnown.cells) rfl rfl rfl rfl rfl HH.out.2.2 (by kernel_rfl) rfl (by simp [zeroKnown, zeroStamp, Known.cells, Value.oneCell']) ?_; intro w8 hB8 hO8 hz8)
     | fail)
    rw [HKE.out]
    exact bodyPost_ret (results_mid rfl _ hB8 (by rfl) Tryz.underlying49 rfl (by kernel_rfl)) rfl ⟨⟨_, rfl, Rep.Own.nil_⟩, HH.out.1.trans (hO8.low (fun g hg => by have : g = w.heap.size + 1 := hg; omega) hzl)⟩
   have g0 : ((fl.length : Int) == 0) = false := by rw [beq_eq_false_iff_ne]; omega
   by_cases hfs : fl.length < b.puts.length
   ·have HKE := jh (show knownS s b = ([], zeroKnown, 1) from by rw [HK.out, if_neg HKN.out, HKN2.out, if_neg hf0, if_pos (.inl hfs)])
    have hfs' : (fl.length : Int) < b.puts.length := by omega
    clear hkn hBx hO hfo hlo hBb hf0
    go_wp2_with (first
     | (refine wpList_store_blk (cs := zeroKnown.cells) rfl rfl rfl rfl rfl HH.out.2.2 (by kernel_rfl) rfl (by simp [zeroKnown, zeroStamp, Known.cells, Value.oneCell']) ?_; intro w8 hB8 hO8 hz8)
     | fail)
    rw [HKE.out]
    exact bodyPost_ret (results_mid rfl _ hB8 (by rfl) Tryz.underlying49 rfl (by kernel_rfl)) rfl ⟨⟨_, rfl, Rep.Own.nil_⟩, HH.out.1.trans (hO8.low (fun g hg => by have : g = w.heap.size + 1 := hg; omega) hzl)⟩
   have hfs' : decide (fl.length < b.puts.length) = false := jd hfs
   cases u
   ·have HKE := jh (show knownS s b = (fl, x, 4) from by rw [HK.out, if_neg HKN.out, HKN2.out, if_neg hf0, if_neg (by simp; omega)])
    haveI : Nonempty (Wd (KnB (w.heap.size + 1) x)) := ⟨⟨_, hBx⟩⟩
    have z0 := KnB.c0 (g := w.heap.size + 1) (x := x)
    have z1 := KnB.c1 (g := w.heap.size + 1) (x := x)
    have z2 := KnB.c2 (g := w.heap.size + 1) (x := x)
    have z3 := KnB.c3 (g := w.heap.size + 1) (x := x)
    have z4 := KnB.c4 (g := w.heap.size + 1) (x := x)
    clear hkn hBx hO hfo hlo hBb hf0 hfs
    go_upto_region 18 with fail
    refine wp_region_mix (.seg [0, 1, 2] 3 (.leaf [4])) (fun w' => ∃ d : Wd (KnB (w.heap.size + 1) x), w' = d.w) (by kernel_rfl) (by kernel_rfl) (fun _ _ d _ _ h => by cases d <;> exact h) (ClsW.mk (D := KnB (w.heap.size + 1) x) (Blk.drew HH.out.2.2)) ?_
    unfold wpMix; simp only [pick, j1, j2, j3, j4]
    (repeat (show wpQuiet _ _ _ _ (_ :: _) _; go_big_quiet_step (fail))); refine qn ?_
    refine wpList_store_blk (cs := x.cells) rfl rfl rfl rfl rfl (Blk.drew HH.out.2.2) (by kernel_rfl) rfl (by simp [Known.cells, Value.oneCell']) ?_
    intro w8 hB8 hO8 hz8
    dsimp only [wpList, SegQ]
    refine ⟨fun w' => ∃ d : Wd (KnB (w.heap.size + 1) x), w' = d.w, ClsW.mk (D := KnB (w.heap.size + 1) x) hB8, fun _ h => h, ?_⟩
    unfold wpMix; simp only [pick, j1, j2, j3, j4]
    (repeat (show wpQuiet _ _ _ _ (_ :: _) _; go_big_quiet_step (fail))); refine qn ?_
    have hO9 : Only (fun g => g = w.heap.size + 1) wr w8 := (jo (jb _ wr).drew).tr hO8
    have hO9f : IntR.Own w8 w1.heap.size 3 (fun _ => False) (.slice Ao fl.length co) fl := (HH.out.2.1.plain (S' := fun _ => False) int_plain).only hO9 (fun _ h => h.elim) (fun g hg h => by
     obtain ⟨xs, hx, _⟩ := HH.out.2.1
     exact own_blk_ne hx HH.out.2.2 (by decide) (show _ = some (w.heap.size + 1) from by rw [hg, show g = w.heap.size + 1 from h]))
    have HO9 := jh (ja hO9 hO9f)
    clear hO9 hO9f z0 z1 z2 z3 z4
    go_wp2_with fail
    rw [HKE.out]
    exact bodyPost_ret (results_mid rfl _ hB8 (by rfl) Tryz.underlying49 rfl (by kernel_rfl)) rfl ⟨⟨_, rfl, HO9.out.2.base' (by omega)⟩, HH.out.1.trans (HO9.out.1.low (fun g hg => by have : g = w.heap.size + 1 := hg; omega) hzl)⟩
   ·have HKE := jh (show knownS s b = ([], zeroKnown, 1) from by rw [HK.out, if_neg HKN.out, HKN2.out, if_neg hf0, if_pos (.inr rfl)])
    clear hkn hBx hO hfo hlo hBb hf0 hfs
    go_wp2_with (first
     | (refine wpList_store_blk (cs := zeroKnown.cells) rfl rfl rfl rfl rfl HH.out.2.2 (by kernel_rfl) rfl (by simp [zeroKnown, zeroStamp, Known.cells, Value.oneCell']) ?_; intro w8 hB8 hO8 hz8)
     | fail)
    rw [HKE.out]
    exact bodyPost_ret (results_mid rfl _ hB8 (by rfl) Tryz.underlying49 rfl (by kernel_rfl)) rfl ⟨⟨_, rfl, Rep.Own.nil_⟩, HH.out.1.trans (hO8.low (fun g hg => by have : g = w.heap.size + 1 := hg; omega) hzl)⟩
end Go.Proofs.YtcmjgghkmdbphaaGreatDoor
