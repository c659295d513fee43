/- Ranging over a map: its entries come one by one, in whatever order. Look-ups whose answer is known. table: New, get, Version, Known, goes, in. DERIVED: THE SHELF's CONTRACTS AT THIS DUMP, IN PLAIN WOR -/
import Derived.Test.YtpgocpodhamibaaGreatDoorNK02
import Derived.Maps.RangeWalk
import Derived.Test.YtpgocpodhamibaaGreatDoorNK05
import Derived.Test.YtpgocpodhamibaaGreatDoorNK03
import Derived.Shelf.SlGeneric
import Derived.Shelf.SlIter.Nil
import Derived.Shelf.SortM.Plain
import Derived.Shelf.SortM.SortNone
import Derived.Shelf.SlMaps.Clone
import Derived.Ground.GgzProg
import Derived.Ground.SlgmProg
import Derived.Ground.SlmcProg
import Derived.Test.YtpgocpodhamibaaGreatDoorProg
import Derived.Sort.KeysCollected
import Derived.Test.YtpgocpodhamibaaGreatDoorNK04
import Derived.Laws.StructEq
import Derived.Deep.DeepCutAuto
namespace Go.Proofs.YtpgocpodhamibaaGreatDoor
open Go.RowKit Go.ChangeMaps
theorem filter_erase {α β : Type} [DecidableEq β] (f : α → β) : ∀ (l : List α) (i : Nat) (x : α), (l.map f).Nodup → l[i]? = some x → l.filter (fun y => !decide (f y = f x)) = l.eraseIdx i
 | [], i, x, _, h => by simp at h
 | a :: l, 0, x, hn, h => by
   simp at h; subst h
   simp only [List.map_cons, List.nodup_cons] at hn
   simp only [List.eraseIdx_cons_zero]
   rw [List.filter_cons_of_neg (by simp), List.filter_eq_self]
   intro y hy
   have : f y ≠ f a := fun e => hn.1 (e ▸ List.mem_map.2 ⟨y, hy, rfl⟩)
   simp [this]
 | a :: l, i + 1, x, hn, h => by
   simp at h
   simp only [List.map_cons, List.nodup_cons] at hn
   have hx : x ∈ l := List.mem_of_getElem? h
   have : f a ≠ f x := fun e => hn.1 (e ▸ List.mem_map.2 ⟨x, hx, rfl⟩)
   rw [List.eraseIdx_cons_succ, List.filter_cons_of_pos (by simp [this]), filter_erase f l i x hn.2 h]
section
variable {κ : Type} {enc : κ → Value} {w w' : World} {m it : Nat} {ps left : List (κ × Value)} {P : Program}
def IterAt (enc : κ → Value) (w : World) (it m : Nat) (left : List (κ × Value)) : Prop :=
 ∃ (es : Array MapEntry) (clk since c0 : Nat) (seen : Array Nat), w.heap[m]? = some (.map es clk) ∧ w.heap[it]? = some (.mapIter (some m) since seen c0) ∧ (es.toList.map (·.born)).Nodup ∧
   (∀ x ∈ es.toList, x.born < since) ∧ since ≤ c0 ∧ since ≤ clk ∧ (leftOf es seen).toList.map (fun e => (e.key, e.val)) = left.map (fun p => (enc p.1, p.2))
theorem IterAt.block (h : IterAt enc w it m left) (h1 : w'.heap[m]? = w.heap[m]?) (h2 : w'.heap[it]? = w.heap[it]?) : IterAt enc w' it m left := by
 obtain ⟨es, clk, since, c0, seen, a, b, r⟩ := h
 exact ⟨es, clk, since, c0, seen, h1.trans a, h2.trans b, r⟩
theorem IterAt.lt (h : IterAt enc w it m left) : m < w.heap.size ∧ it < w.heap.size := by
 obtain ⟨es, clk, since, c0, seen, a, b, r⟩ := h
 exact ⟨(Array.getElem?_eq_some_iff.1 a).1, (Array.getElem?_eq_some_iff.1 b).1⟩
theorem IterAt.ext (h : IterAt enc w it m left) (hb : Below w.heap.size w w') : IterAt enc w' it m left := h.block (hb.block m h.lt.1) (hb.block it h.lt.2)
theorem run_range_at {t kt e : TypeId} (ht : P.underlying t = some (.map kt e)) (h : MapAt enc w m ps) :
 ∃ w', (Instr.range t (.map (some m))).run P w = .ok (.pointer (some ⟨w.heap.size, 0, none⟩)) w' ∧ IterAt enc w' w.heap.size m ps ∧ Below w.heap.size w w' ∧ w'.heap.size = w.heap.size + 1 := by
 obtain ⟨es, clk, hh, he, hp, hc⟩ := h
 refine ⟨_, run_range_map w t kt e m es clk ht hh, ⟨es, clk, clk, clk, #[], ?_, ?_, ?_, hc, Nat.le_refl _, Nat.le_refl _, ?_⟩, (jb _ _).al _, by simp⟩
 ·rw [heap_alloc_old w _ (Array.getElem?_eq_some_iff.1 hh).1]; exact hh
 ·exact heap_alloc_new w _
 ·exact hp.imp (fun h => Nat.ne_of_lt h)
 ·rw [← he]; congr 1; simp [leftOf]
theorem run_next_iter (ty : TypeId) (h : IterAt enc w it m left) :
 (left = [] ∧ (Instr.next (.pointer (some ⟨it, 0, none⟩)) false ty).run P w = .ok (.tuple #[.bool false]) w) ∨
 ∃ (i : Nat) (p : κ × Value) (w' : World), left[i]? = some p ∧ (Instr.next (.pointer (some ⟨it, 0, none⟩)) false ty).run P w = .ok (.tuple #[.bool true, enc p.1, p.2]) w' ∧ IterAt enc w' it m (left.eraseIdx i) ∧ Only (· = it) w w' ∧ w'.heap.size = w.heap.size ∧
   (∀ w'', w''.heap[m]? = w'.heap[m]? → w''.heap[it]? = w'.heap[it]? → (Instr.entry (.pointer (some ⟨it, 0, none⟩))).run P w'' = .ok (.tuple #[enc p.1, p.2]) w'') := by
 obtain ⟨es, clk, since, c0, seen, hm, hi, hn, ho, hs, hs2, hl⟩ := h
 rcases run_next_at (P := P) w ty it m since c0 seen es clk hi hm ho hs with ⟨h0, hr⟩ | ⟨e, he, w1, hw1, hr⟩
 ·left
  refine ⟨?_, hr⟩
  have : (leftOf es seen).toList = [] := by simpa using h0
  rw [this] at hl
  simpa using hl.symm
 ·right
  obtain ⟨i, hii⟩ := List.getElem?_of_mem he
  have hp := congrArg (·[i]?) hl
  simp only [List.getElem?_map, hii, Option.map_some] at hp
  obtain ⟨p, hpi, hpe⟩ := Option.map_eq_some_iff.1 hp.symm
  injection hpe with k1 k2
  have hwb : ∀ g : Nat, w1.heap[g]? = w.heap[g]? := fun g => by rcases hw1 with rfl | rfl <;> rfl
  have hmi : m ≠ it := by
   rintro rfl
   rw [hm] at hi; cases hi
  have hset : ∀ g : Nat, g ≠ it → (setBlock w1 it (.mapIter (some m) since (seen.push e.born) clk)).heap[g]? = w.heap[g]? := fun g hg => by
   rw [← hwb]; simp only [setBlock, Array.getElem?_setIfInBounds]; rw [if_neg (fun h => hg h.symm)]
  have hsz : w1.heap.size = w.heap.size := by rcases hw1 with rfl | rfl <;> rfl
  have hit : (setBlock w1 it (.mapIter (some m) since (seen.push e.born) clk)).heap[it]? = some (.mapIter (some m) since (seen.push e.born) clk) := by
   have := (Array.getElem?_eq_some_iff.1 hi).1
   simp [setBlock, hsz, this]
  have heL : e ∈ es.toList := by
   unfold leftOf at he; simp at he; simpa using he.1
  refine ⟨i, p, _, hpi, by rw [k1, k2]; exact hr, ⟨es, clk, since, clk, seen.push e.born, (hset m hmi).trans hm, hit, hn, ho, hs2, hs2, ?_⟩, ⟨?_, ?_, ?_, ?_, fun g _ hg => hset g hg⟩, by simp [setBlock, hsz], fun w'' h1 h2 => ?_⟩
  ·rw [map_erase, ← hl, ← map_erase]
   congr 1
   have hnl : ((leftOf es seen).toList.map (·.born)).Nodup := by
    unfold leftOf
    rw [Array.toList_filter]
    exact hn.sublist (List.Sublist.map _ (List.filter_sublist))
   rw [← filter_erase (·.born) _ i e hnl hii]
   unfold leftOf
   simp only [Array.toList_filter, List.filter_filter]
   apply List.filter_congr
   intro x _
   rw [Bool.eq_iff_iff]
   simp
   exact ⟨fun h => ⟨h.2, h.1⟩, fun h => ⟨h.2, h.1⟩⟩
  ·rcases hw1 with rfl | rfl <;> rfl
  ·rcases hw1 with rfl | rfl <;> rfl
  ·rcases hw1 with rfl | rfl <;> rfl
  ·simp [setBlock, hsz]
  ·rw [k1, k2]
   exact run_entry_at w'' it m since seen es clk e (h2.trans hit) (h1.trans ((hset m hmi).trans hm)) heL hn
variable {ops : Array Oper} {rest : List Oper} {o : Oper} {a : Act} {Q : Exit → Act → World → Prop}
theorem wpList_range_map (hg : o.guard = none) (mo : Operand) (t : TypeId) (hop : o.op = Op.range t mo) {kt e : TypeId} (ht : P.underlying t = some (.map kt e)) (hm : a.eval mo = .map (some m)) (h : MapAt enc w m ps)
 (hK : ∀ w', IterAt enc w' w.heap.size m ps → Below w.heap.size w w' → w'.heap.size = w.heap.size + 1 → wpList P ops Q rest (a.put o.dst (.pointer (some ⟨w.heap.size, 0, none⟩))) w') : wpList P ops Q (o :: rest) a w := by
 refine wpList_plain hg fun K' hK' => ?_
 obtain ⟨w', hrun, r1, r2, r3⟩ := run_range_at (P := P) ht h
 unfold Oper.wp
 simp [execOp, hop, hm, hrun, Result.andThen]
 exact hK' _ _ (hK w' r1 r2 r3)
theorem wpList_next_map (hg : o.guard = none) (ito : Operand) (hop : o.op = Op.next ito false) (hit : a.eval ito = .pointer (some ⟨it, 0, none⟩)) (h : IterAt enc w it m left)
 (hDone : left = [] → wpList P ops Q rest (a.put o.dst (.tuple #[.bool false])) w)
 (hMore : ∀ (i : Nat) (p : κ × Value) (w' : World), left[i]? = some p → IterAt enc w' it m (left.eraseIdx i) → Only (· = it) w w' → w'.heap.size = w.heap.size →
  (∀ w'', w''.heap[m]? = w'.heap[m]? → w''.heap[it]? = w'.heap[it]? → (Instr.entry (.pointer (some ⟨it, 0, none⟩))).run P w'' = .ok (.tuple #[enc p.1, p.2]) w'') → wpList P ops Q rest (a.put o.dst (.tuple #[.bool true, enc p.1, p.2])) w') : wpList P ops Q (o :: rest) a w := by
 refine wpList_plain hg fun K' hK' => ?_
 unfold Oper.wp
 rcases run_next_iter (P := P) o.type h with ⟨h0, hrun⟩ | ⟨i, p, w', hp, hrun, r1, r2, r3, r4⟩
 ·simp [execOp, hop, hit, hrun, Result.andThen]
  exact hK' _ _ (hDone h0)
 ·simp [execOp, hop, hit, hrun, Result.andThen]
  exact hK' _ _ (hMore i p w' hp r1 r2 r3 r4)
def leftLen (w : World) (it m : Nat) : Nat := match w.heap[it]?, w.heap[m]? with
 | some (.mapIter _ _ seen _), some (.map es _) => (leftOf es seen).size
 | _, _ => 0
theorem IterAt.len (h : IterAt enc w it m left) : leftLen w it m = left.length := by
 obtain ⟨es, clk, since, c0, seen, hm, hi, hn, ho, hs, hs2, hl⟩ := h
 unfold leftLen
 rw [hi, hm]
 have := congrArg List.length hl
 simpa using this
def IterNil (w : World) (it : Nat) : Prop := ∃ a s b, w.heap[it]? = some (.mapIter none a s b)
theorem wpList_range_nil (hg : o.guard = none) (mo : Operand) (t : TypeId) (hop : o.op = Op.range t mo) {kt e : TypeId} (ht : P.underlying t = some (.map kt e)) (hm : a.eval mo = .map none)
 (hK : ∀ w', IterNil w' w.heap.size → Below w.heap.size w w' → w'.heap.size = w.heap.size + 1 → wpList P ops Q rest (a.put o.dst (.pointer (some ⟨w.heap.size, 0, none⟩))) w') : wpList P ops Q (o :: rest) a w := by
 refine wpList_plain hg fun K' hK' => ?_
 have hrun := run_range_nilMap (P := P) w t kt e ht
 unfold Oper.wp
 simp [execOp, hop, hm, hrun, Result.andThen]
 exact hK' _ _ (hK _ ⟨_, _, _, heap_alloc_new w _⟩ ((jb _ _).al _) (by simp))
theorem wpList_next_nil (hg : o.guard = none) (ito : Operand) (hop : o.op = Op.next ito false) (hit : a.eval ito = .pointer (some ⟨it, 0, none⟩)) (h : IterNil w it)
 (hDone : wpList P ops Q rest (a.put o.dst (.tuple #[.bool false])) w) : wpList P ops Q (o :: rest) a w := by
 refine wpList_plain hg fun K' hK' => ?_
 obtain ⟨x, s, b, h⟩ := h
 have hrun : (Instr.next (.pointer (some ⟨it, 0, none⟩)) false o.type).run P w = .ok (.tuple #[.bool false]) w := by
  simp only [Instr.next, getObj, Sem.run_bind, Sem.run, h, Result.andThen]
  rfl
 unfold Oper.wp
 simp [execOp, hop, hit, hrun, Result.andThen]
 exact hK' _ _ hDone
end
open Go.RowKit
section
variable {κ : Type} [DecidableEq κ] {P : Program} {kt : TypeId} {enc : κ → Value} {w w' : World} {m : Nat} {ps : List (κ × Value)}
variable {ops : Array Oper} {rest : List Oper} {o : Oper} {a : Act} {Q : Exit → Act → World → Prop}
theorem wpList_lookup_two (r : Option Value) (K : KeyOk P kt enc) (hg : o.guard = none) (mo x : Operand) (t : TypeId) (hop : o.op = Op.lookup t mo x true) {e : TypeId}
 (ht : P.underlying t = some (.map kt e)) (hm : a.eval mo = .map (some m)) (h : MapAt enc w m ps) (k : κ) (hx : a.eval x = enc k) (hr : assocOf k ps = r) (z : Value) (hz : (zeroValue e).run P w = .ok z w)
 (hK : wpList P ops Q rest (a.put o.dst (.tuple #[r.getD z, .bool r.isSome])) w) : wpList P ops Q (o :: rest) a w := by
 refine wpList_lookup_map K hg mo x t true hop ht hm h k hx z hz ?_
 rw [hr]; exact hK
theorem wpList_lookup_one (r : Option Value) (K : KeyOk P kt enc) (hg : o.guard = none) (mo x : Operand) (t : TypeId) (hop : o.op = Op.lookup t mo x false) {e : TypeId}
 (ht : P.underlying t = some (.map kt e)) (hm : a.eval mo = .map (some m)) (h : MapAt enc w m ps) (k : κ) (hx : a.eval x = enc k) (hr : assocOf k ps = r) (z : Value) (hz : (zeroValue e).run P w = .ok z w)
 (hK : wpList P ops Q rest (a.put o.dst (r.getD z)) w) : wpList P ops Q (o :: rest) a w := by
 refine wpList_lookup_map K hg mo x t false hop ht hm h k hx z hz ?_
 rw [hr]; exact hK
theorem wpList_delete_map (K : KeyOk P kt enc) (hg : o.guard = none) (mo x : Operand) (t : TypeId) (hop : o.op = Op.call { callee := Callee.builtin Builtin.delete, args := #[mo, x], argTypes := #[t, kt] }) {e : TypeId}
 (ht : P.underlying t = some (.map kt e)) (hm : a.eval mo = .map (some m)) (h : MapAt enc w m ps) (k : κ) (hx : a.eval x = enc k)
 (hK : ∀ w', MapAt enc w' m (assocDel k ps) → Only (· = m) w w' → wpList P ops Q rest (a.put o.dst (.tuple #[])) w') : wpList P ops Q (o :: rest) a w := by
 refine wpList_plain hg fun K' hK' => ?_
 obtain ⟨w', hrun, r1, r2⟩ := run_delete_map (ty := o.type) K ht h k
 unfold Oper.wp
 simp [execOp, hop, resolve, invoke, builtin, hm, hx, hrun, Result.andThen]
 exact hK' _ _ (hK w' r1 r2)
end
open Go.RowKit
set_option maxHeartbeats 400000 in
theorem tnew_any (w : World) : Calls Tryz.prog 68 #[] w fun e w' => e = .returned (ptrV w.heap.size) ∧ w' = w.alloc (.cells #[.map none] 217) := by
 go_enter Tryz.func68, Tryz.ntmps68
 go_wp2
 go_ret
 exact ⟨rfl, rfl⟩
theorem TabAt.new (w : World) : TabAt (w.alloc (.cells #[.map none] 217)) (· = w.heap.size) w.heap.size [] := ⟨rfl, .inl ⟨Blk.new w 217 [.map none], rfl⟩⟩
theorem zero_sptr (w : World) : (zeroValue 237).run Tryz.prog w = .ok (.pointer none) w := by kernel_rfl
def GotStream (w : World) (P : Nat → Prop) (T : Tab) (n : Str) (e : Ending) : Prop := match getA n T with | none => e = .returned (.pointer none) | some ts => ∃ s : SB, e = .returned (ptrV s.b) ∧ TSAt w s ts ∧ s.In P
set_option maxHeartbeats 800000 in
theorem get_any (tb : Nat) (T : Tab) (n : Str) (P : Nat → Prop) (w : World) (h : TabAt w P tb T) : Calls Tryz.prog 171 #[ptrV tb, .string n] w fun e w' => GotStream w P T n e ∧ w = w' := by
 unfold ptrV
 obtain ⟨hp, ⟨hb, rfl⟩ | ⟨m, TA, hb, hm, hA, rfl⟩⟩ := h
 ·have b0 : w.cell? ⟨tb, 0, none⟩ = some (.map none) := hb.cell 0
  go_enter Tryz.func171, Tryz.ntmps171
  go_wp2_with (at_lookup; refine wpList_lookup_nil strKey rfl (.tmp 10) (.tmp 11) 215 false rfl Tryz.underlying215 rfl n rfl _ (zero_sptr _) ?_; rw [if_neg (by simp)])
  go_ret
  exact ⟨rfl, rfl⟩
 ·have b0 : w.cell? ⟨tb, 0, none⟩ = some (.map (some m)) := hb.cell 0
  have HM := hA.map
  have hpg := ptrs_get TA n
  rw [← assocOf_eq] at hpg
  have htg := tab_get TA n
  cases hg : getA n TA with
  | none =>
    rw [hg] at hpg htg
    have HG := jh htg
    have HP := jh hpg
    clear hpg htg hg
    go_enter Tryz.func171, Tryz.ntmps171
    go_wp2_with (at_lookup; refine wpList_lookup_map strKey rfl (.tmp 10) (.tmp 11) 215 false rfl Tryz.underlying215 rfl HM n rfl _ (zero_sptr _) ?_; rw [if_neg (by simp), HP.out])
    go_ret
    exact ⟨by unfold GotStream; rw [HG.out]; rfl, rfl⟩
  | some q =>
    obtain ⟨ts, s⟩ := q
    rw [hg] at hpg htg
    have HG := jh htg
    have HP := jh hpg
    have HE := jh (hA.each _ (getA_mem hg))
    clear hpg htg hg
    go_enter Tryz.func171, Tryz.ntmps171
    go_wp2_with (at_lookup; refine wpList_lookup_map strKey rfl (.tmp 10) (.tmp 11) 215 false rfl Tryz.underlying215 rfl HM n rfl _ (zero_sptr _) ?_; rw [if_neg (by simp), HP.out])
    go_ret
    exact ⟨by unfold GotStream; rw [HG.out]; exact ⟨s, rfl, HE.out.1, HE.out.2.2.1⟩, rfl⟩
set_option maxHeartbeats 800000 in
theorem version_any (tb : Nat) (T : Tab) (n : Str) (P : Nat → Prop) (w : World) (h : TabAt w P tb T) : Calls Tryz.prog 81 #[ptrV tb, .string n] w fun e w' => e = .returned (.int .i64 (versionT T n)) ∧ w = w' := by
 have C := get_any tb T n P w h
 have HV := jh (show versionT T n = match getA n T with | some s => (s.events.length : Int) | none => 0 from rfl)
 unfold ptrV at C ⊢
 unfold GotStream at C
 clear h
 cases hg : getA n T with
 | none =>
   rw [hg] at C
   have HG := jh hg
   clear hg
   go_enter Tryz.func81, Tryz.ntmps81
   go_wp2_with fail
   refine C.mono ?_
   clear C
   rintro e w' ⟨he, rfl⟩
   have he : e = .returned (.pointer none) := he
   subst he
   go_wp2_with fail
   go_ret
   exact ⟨by rw [HV.out, HG.out]; rfl, rfl⟩
 | some ts =>
   rw [hg] at C
   have HG := jh hg
   clear hg
   go_enter Tryz.func81, Tryz.ntmps81
   go_wp2_with fail
   refine C.mono ?_
   clear C
   rintro e w' ⟨he, rfl⟩
   obtain ⟨s, rfl, hs, hi⟩ : ∃ s : SB, e = .returned (ptrV s.b) ∧ TSAt w s ts ∧ s.In P := he
   obtain ⟨A, c, hev, _⟩ := hs.ev.form
   have b0 : w.cell? ⟨s.b, 0, none⟩ = some (.slice A ts.events.length c) := by rw [← hev]; exact hs.blk.cell 0
   clear hev hs
   unfold ptrV
   go_wp2_with fail
   go_ret
   exact ⟨by rw [HV.out, HG.out]; rfl, rfl⟩
theorem zero_known (w : World) : (zeroValue 70).run Tryz.prog w = .ok (.agg #[.string ⟨#[]⟩, .int .i64 0, .int .i64 0, .int .i64 0, .int .i64 0]) w := by kernel_rfl
def KnownV (k : Known) (b : Bool) : Value := .tuple #[.agg #[.string k.key, .int .i64 k.first, .int .i64 k.stamp.wall, .int .i64 k.stamp.logic, .int .i64 k.stamp.node], .bool b]
theorem keys_get (l : List (Str × Known)) (n : Str) : assocOf n (l.map fun p => (p.1, p.2.val)) = (getA n l).map Known.val := by rw [assocOf_eq]; exact getA_map Known.val n l
theorem knownT_none {T : Tab} {n k : Str} {s : TS} (h : getA n T = some s) (h2 : getA k s.keys = none) : knownT T n k = (zeroKnown, false) := by unfold knownT; simp only [h, h2]
theorem knownT_some {T : Tab} {n k : Str} {s : TS} {x : Known} (h : getA n T = some s) (h2 : getA k s.keys = some x) : knownT T n k = (x, true) := by unfold knownT; simp only [h, h2]
set_option maxHeartbeats 1600000 in
theorem knownT_any (tb : Nat) (T : Tab) (n k : Str) (P : Nat → Prop) (w : World) (h : TabAt w P tb T) : Calls Tryz.prog 191 #[ptrV tb, .string n, .string k] w fun e w' => e = .returned (KnownV (knownT T n k).1 (knownT T n k).2) ∧ Below w.heap.size w w' := by
 have hb0 := (jb w.heap.size w).al (.cells #[.string ⟨#[]⟩, .int .i64 0, .int .i64 0, .int .i64 0, .int .i64 0] 70)
 have C := get_any tb T n P _ (h.ext hb0)
 have B0 := Blk.new w 70 [.string ⟨#[]⟩, .int .i64 0, .int .i64 0, .int .i64 0, .int .i64 0]
 unfold ptrV at C ⊢
 unfold GotStream at C
 clear h
 cases hg : getA n T with
 | none =>
   rw [hg] at C
   have HV := jh (show knownT T n k = (zeroKnown, false) from by unfold knownT; rw [hg])
   clear hg
   go_enter Tryz.func191, Tryz.ntmps191
   go_wp2_with fail
   refine C.mono ?_
   clear C
   rintro e w' ⟨he, rfl⟩
   have he : e = .returned (.pointer none) := he
   subst he
   go_wp2_with fail
   rw [HV.out]
   exact bodyPost_ret (results_blk_tmp rfl _ B0 rfl Tryz.underlying70 rfl (by kernel_rfl)) rfl ⟨rfl, hb0⟩
 | some ts =>
   rw [hg] at C
   have HV := jh hg
   have HB := jh B0
   clear hg B0
   go_enter Tryz.func191, Tryz.ntmps191
   go_wp2_with fail
   refine C.mono ?_
   clear C
   rintro e w' ⟨he, rfl⟩
   obtain ⟨s, rfl, hs, hi⟩ : ∃ s : SB, e = .returned (ptrV s.b) ∧ TSAt _ s ts ∧ s.In P := he
   have b1 := hs.blk.cell 1
   have HM := hs.km
   have hkg := keys_get ts.keys k
   have HFX := hs.blk.lt
   clear hs hi
   unfold ptrV
   cases hq : getA k ts.keys with
   | none =>
     rw [hq] at hkg
     have HV := jh (knownT_none HV.out hq)
     have HQ := jh hkg
     clear hq hkg
     go_wp2_with (at_lookup; refine wpList_lookup_two none strKey rfl (.tmp 21) (.tmp 22) 239 rfl Tryz.underlying239 rfl HM k rfl HQ.out _ (zero_known _) ?_; simp only [Option.getD_none, Option.isSome_none])
     rw [HV.out]
     exact bodyPost_ret (results_blk_tmp rfl _ ((Blk.new w 70 [.string ⟨#[]⟩, .int .i64 0, .int .i64 0, .int .i64 0, .int .i64 0]).alloc _) rfl Tryz.underlying70 rfl (by kernel_rfl)) rfl ⟨rfl, ((jb _ _).al _).al _⟩
   | some x =>
     rw [hq] at hkg
     have HV := jh (knownT_some HV.out hq)
     have HQ := jh hkg
     clear hq hkg
     unfold Known.val at HQ
     go_wp2_with (at_lookup; refine wpList_lookup_two (some (.agg #[.string x.key, .int .i64 x.first, .int .i64 x.stamp.wall, .int .i64 x.stamp.logic, .int .i64 x.stamp.node])) strKey rfl (.tmp 21) (.tmp 22) 239 rfl Tryz.underlying239 rfl HM k rfl HQ.out _ (zero_known _) ?_; simp only [Option.getD_some, Option.isSome_some])
     rw [HV.out]
     exact bodyPost_ret (results_blk_tmp rfl _ ((Blk.new w 70 [.string x.key, .int .i64 x.first, .int .i64 x.stamp.wall, .int .i64 x.stamp.logic, .int .i64 x.stamp.node]).alloc _) rfl Tryz.underlying70 rfl (by kernel_rfl)) rfl ⟨rfl, ((jb _ _).al _).al _⟩
theorem goesFrom_drop (l : List Event) (v : Int) (k : Nat) (h : k < l.length) : goesFrom (l.drop k) v k = (decide (l[k].version = v + 1 + k) && goesFrom (l.drop (k + 1)) v ((k + 1 : Nat) : Int)) := by
 rw [List.drop_eq_getElem_cons h]; rfl
set_option maxRecDepth 20000 in
set_option maxHeartbeats 800000 in
theorem goes_any (A : Option Addr) (c : Nat) (l : List Event) (v : Int) (P : Nat → Prop) (w : World) (hr : EventR.Row w P A l) (hl : l.length ≤ 100000000) (hv : -1000000 ≤ v ∧ v ≤ 100000000) :
 Calls Tryz.prog 274 #[.slice A l.length c, .int .i64 v] w fun e w' => e = .returned (.bool (goesB l v)) ∧ Below w.heap.size w w' := by
 have HR := jh hr; clear hr
 have HL := jh hl; clear hl
 have HV := jh hv
 obtain ⟨hv1, hv2⟩ := hv
 go_enter Tryz.func274, Tryz.ntmps274
 go_wp2_with fail
 go_loopw [5, 9] (fun _ i wr => ∃ k : Nat, k ≤ l.length ∧ i = .int .i64 k ∧ goesFrom (l.drop k) v k = goesB l v ∧ Below w.heap.size w wr) (fun _ i _ => l.length - (intOf i).toNat)
 case atStart => exact ⟨0, Nat.zero_le _, rfl, rfl, jb _ _⟩
 case round =>
  obtain ⟨k, hk, rfl, hs, hbl⟩ := hrel
  have HS := jh hs; clear hs
  by_cases hlt : k < l.length
  ·have hlk := List.getElem?_eq_getElem hlt
   have hd := goesFrom_drop l v k hlt
   generalize l[k] = x at hlk hd
   obtain ⟨b, o, cs, rfl, hP, hbw, hrep, hcs⟩ := (HR.out.ext hbl).at_ hlk
   obtain ⟨rfl, hf⟩ := event_rep.1 hrep
   unfold Event.cells at hcs
   have HD := jh hd
   have c0 := hcs 0 _ rfl; have c1 := hcs 1 _ rfl; have c2 := hcs 2 _ rfl; have c3 := hcs 3 _ rfl; have c4 := hcs 4 _ rfl; have c5 := hcs 5 _ rfl; have c6 := hcs 6 _ rfl; simp only [EventR_size, Nat.add_zero] at c0 c1 c2 c3 c4 c5 c6
   clear hd hcs hrep hlk hf
   have hlt' : (k : Int) < l.length := by omega
   have hkm : (k : Int) ≤ 100000000 := by have := HL.out; omega
   have hw1 : wrap64 (v + 1) = v + 1 := wrap_in _ (by omega)
   have hw2 : wrap64 (v + 1 + (k : Int)) = v + 1 + k := wrap_in _ (by omega)
   by_cases hx : x.version = v + 1 + k
   ·have HX := jh hx
    have g1 : (x.version == v + 1 + (k : Int)) = true := by rw [beq_iff_eq]; exact hx
    clear hx
    go_wp2_with fail
    go_round
    case rel =>
     refine ⟨k + 1, by omega, by go_num, ?_, hbl.tr (by repeat (with_reducible first | assumption | exact jb _ _ | refine Below.al ?_ _ | refine Below.drew ?_ | apply Below.st1))⟩
     have h := HS.out
     rw [HD.out, decide_eq_true HX.out, Bool.true_and] at h
     exact h
    case measure => simp [intOf]; omega
   ·have HX := jh hx
    have g1 : (x.version == v + 1 + (k : Int)) = false := by rw [beq_eq_false_iff_ne]; exact hx
    clear hx
    go_wp2_with fail
    go_ret
    refine ⟨ret_bool ?_, hbl.tr (by repeat (with_reducible first | assumption | exact jb _ _ | refine Below.al ?_ _ | refine Below.drew ?_ | apply Below.st1))⟩
    rw [← HS.out, HD.out, decide_eq_false HX.out]; rfl
  ·have hkn : k = l.length := by omega
   subst hkn
   go_wp2_with fail
   go_ret
   refine ⟨ret_bool ?_, hbl⟩
   rw [← HS.out, List.drop_length]; rfl
set_option maxHeartbeats 400000 in
theorem in_any (r : Range) (n : Str) (w : World) (hn : sfit n) : Calls Tryz.prog 243 #[r.val, .string n] w fun e w' => e = .returned (.bool (inR r n)) ∧ Below w.heap.size w w' := by
 have CH := fun W => hash_any n W hn
 have hbd := hash_bd n.data.toList
 change 0 ≤ hashS n ∧ hashS n < 4294967296 at hbd
 obtain ⟨h0, h1⟩ := hbd
 have HF := jh (show inR r n = (decide (r.first ≤ hashS n) && decide (hashS n ≤ r.last)) from rfl)
 rw [HF.out]
 clear HF
 unfold Range.val
 go_enter Tryz.func243, Tryz.ntmps243
 go_wp2_with fail
 refine (CH _).mono ?_
 clear CH
 rintro e w' ⟨rfl, rfl⟩
 go_wp2
 all_goals
  go_ret
  refine ⟨ret_bool ?_, by repeat (with_reducible first | assumption | exact jb _ _ | refine Below.al ?_ _ | refine Below.drew ?_ | apply Below.st1)⟩
  go_light
  rw [Bool.eq_iff_iff]
  simp at *
  omega
end Go.Proofs.YtpgocpodhamibaaGreatDoor
namespace Go.Proofs
open Go.Shelf
def Tryz.keysS_ren : Go.Shelf.Ren := ⟨fun | 7 => 279 | 10 => 298 | n => n, fun | 23 => 215 | 26 => 9 | 3 => 237 | 28 => 245 | 0 => 0 | 27 => 244 | 33 => 87 | 4 => 4 | n => n, fun | n => n⟩
theorem Tryz.keysS : Go.Proofs.SlLaysZ.n7 Tryz.prog Tryz.keysS_ren := {
 mixed := by kernel_rfl
 f7 := ⟨Tryz.f279.name, by decide, Tryz.func279.trans (congrArg some (by kernel_rfl))⟩
 f10 := ⟨Tryz.f298.name, by decide, Tryz.func298.trans (congrArg some (by kernel_rfl))⟩
 t0 := Tryz.underlying0
 a0 := Tryz.isAgg0
 z0 := Tryz.sizeOf0
 v0 := Tryz.zeroValue0
 t4 := Tryz.underlying4
 a4 := Tryz.isAgg4
 z4 := Tryz.sizeOf4
 v4 := Tryz.zeroValue4
 t23 := Tryz.underlying215
 a23 := Tryz.isAgg215
 z23 := Tryz.sizeOf215
 v23 := Tryz.zeroValue215
 t26 := Tryz.underlying9
 a26 := Tryz.isAgg9
 z26 := Tryz.sizeOf9
 v26 := Tryz.zeroValue9
 t27 := Tryz.underlying244
 a27 := Tryz.isAgg244
 z27 := Tryz.sizeOf244
 v27 := Tryz.zeroValue244
 t28 := Tryz.underlying245
 a28 := Tryz.isAgg245
 z28 := Tryz.sizeOf245
 v28 := Tryz.zeroValue245
 t33 := Tryz.underlying87
 a33 := Tryz.isAgg87
 z33 := Tryz.sizeOf87
 v33 := Tryz.zeroValue87 }
def Tryz.keysK_ren : Go.Shelf.Ren := ⟨fun | 7 => 174 | 10 => 246 | n => n, fun | 23 => 239 | 26 => 9 | 3 => 70 | 28 => 245 | 0 => 0 | 27 => 244 | 33 => 87 | 4 => 4 | n => n, fun | n => n⟩
theorem Tryz.keysK : Go.Proofs.SlLaysZ.n7 Tryz.prog Tryz.keysK_ren := {
 mixed := by kernel_rfl
 f7 := ⟨Tryz.f174.name, by decide, Tryz.func174.trans (congrArg some (by kernel_rfl))⟩
 f10 := ⟨Tryz.f246.name, by decide, Tryz.func246.trans (congrArg some (by kernel_rfl))⟩
 t0 := Tryz.underlying0
 a0 := Tryz.isAgg0
 z0 := Tryz.sizeOf0
 v0 := Tryz.zeroValue0
 t4 := Tryz.underlying4
 a4 := Tryz.isAgg4
 z4 := Tryz.sizeOf4
 v4 := Tryz.zeroValue4
 t23 := Tryz.underlying239
 a23 := Tryz.isAgg239
 z23 := Tryz.sizeOf239
 v23 := Tryz.zeroValue239
 t26 := Tryz.underlying9
 a26 := Tryz.isAgg9
 z26 := Tryz.sizeOf9
 v26 := Tryz.zeroValue9
 t27 := Tryz.underlying244
 a27 := Tryz.isAgg244
 z27 := Tryz.sizeOf244
 v27 := Tryz.zeroValue244
 t28 := Tryz.underlying245
 a28 := Tryz.isAgg245
 z28 := Tryz.sizeOf245
 v28 := Tryz.zeroValue245
 t33 := Tryz.underlying87
 a33 := Tryz.isAgg87
 z33 := Tryz.sizeOf87
 v33 := Tryz.zeroValue87 }
def Tryz.sortedA_ren : Go.Shelf.Ren := ⟨fun | 6 => 173 | 8 => 244 | 9 => 245 | 11 => 280 | 13 => 261 | 12 => 281 | 23 => 295 | 24 => 296 | 14 => 299 | 15 => 300 | 16 => 301 | 17 => 302 | 18 => 303 | 19 => 304 | 20 => 305 | 21 => 306 | 22 => 307 | 25 => 314 | 26 => 309 | 27 => 310 | 28 => 315 | 29 => 316 | 30 => 317 | 31 => 319 | n => n, fun | 26 => 9 | 28 => 245 | 24 => 27 | 0 => 0 | 3 => 3 | 37 => 324 | 48 => 260 | 50 => 273 | 4 => 4 | 40 => 347 | 39 => 346 | 45 => 351 | 5 => 5 | 9 => 9 | 51 => 361 | 55 => 143 | 57 => 373 | 58 => 374 | 33 => 87 | n => n, fun | n => n⟩
theorem Tryz.sortedA : Go.Proofs.SlLaysZ.n6 Tryz.prog Tryz.sortedA_ren := {
 mixed := by kernel_rfl
 f6 := ⟨Tryz.f173.name, by decide, Tryz.func173.trans (congrArg some (by kernel_rfl))⟩
 f8 := ⟨Tryz.f244.name, by decide, Tryz.func244.trans (congrArg some (by kernel_rfl))⟩
 f11 := ⟨Tryz.f280.name, by decide, Tryz.func280.trans (congrArg some (by kernel_rfl))⟩
 t0 := Tryz.underlying0
 a0 := Tryz.isAgg0
 z0 := Tryz.sizeOf0
 v0 := Tryz.zeroValue0
 t24 := Tryz.underlying27
 a24 := Tryz.isAgg27
 z24 := Tryz.sizeOf27
 v24 := Tryz.zeroValue27
 t26 := Tryz.underlying9
 a26 := Tryz.isAgg9
 z26 := Tryz.sizeOf9
 v26 := Tryz.zeroValue9
 t28 := Tryz.underlying245
 a28 := Tryz.isAgg245
 z28 := Tryz.sizeOf245
 v28 := Tryz.zeroValue245
 i26 := by kernel_rfl }
def Tryz.sortA_ren : Go.Shelf.Ren := ⟨fun | 6 => 245 | 8 => 261 | 9 => 281 | 19 => 295 | 20 => 296 | 21 => 299 | 22 => 300 | 23 => 301 | 24 => 302 | 25 => 303 | 26 => 304 | 27 => 305 | 28 => 306 | 29 => 307 | 36 => 314 | 31 => 309 | 32 => 310 | 37 => 315 | 38 => 316 | 39 => 317 | 41 => 319 | n => n, fun | 27 => 27 | 29 => 9 | 3 => 3 | 32 => 324 | 26 => 27 | 0 => 0 | 44 => 260 | 46 => 273 | 4 => 4 | 36 => 347 | 35 => 346 | 41 => 351 | 5 => 5 | 9 => 9 | 53 => 361 | 57 => 143 | 63 => 373 | 64 => 374 | n => n, fun | n => n⟩
theorem Tryz.sortA : Go.Proofs.SlLaysM.n6 Tryz.prog Tryz.sortA_ren := {
 mixed := by kernel_rfl
 f6 := ⟨Tryz.f245.name, by decide, Tryz.func245.trans (congrArg some (by kernel_rfl))⟩
 f8 := Tryz.func261.trans (congrArg some (by kernel_rfl))
 f9 := ⟨Tryz.f281.name, by decide, Tryz.func281.trans (congrArg some (by kernel_rfl))⟩
 f19 := Tryz.func295.trans (congrArg some (by kernel_rfl))
 f20 := Tryz.func296.trans (congrArg some (by kernel_rfl))
 f21 := ⟨Tryz.f299.name, by decide, Tryz.func299.trans (congrArg some (by kernel_rfl))⟩
 f22 := ⟨Tryz.f300.name, by decide, Tryz.func300.trans (congrArg some (by kernel_rfl))⟩
 f23 := ⟨Tryz.f301.name, by decide, Tryz.func301.trans (congrArg some (by kernel_rfl))⟩
 f24 := ⟨Tryz.f302.name, by decide, Tryz.func302.trans (congrArg some (by kernel_rfl))⟩
 f25 := ⟨Tryz.f303.name, by decide, Tryz.func303.trans (congrArg some (by kernel_rfl))⟩
 f26 := ⟨Tryz.f304.name, by decide, Tryz.func304.trans (congrArg some (by kernel_rfl))⟩
 f27 := ⟨Tryz.f305.name, by decide, Tryz.func305.trans (congrArg some (by kernel_rfl))⟩
 f28 := ⟨Tryz.f306.name, by decide, Tryz.func306.trans (congrArg some (by kernel_rfl))⟩
 f29 := ⟨Tryz.f307.name, by decide, Tryz.func307.trans (congrArg some (by kernel_rfl))⟩
 f31 := Tryz.func309.trans (congrArg some (by kernel_rfl))
 f32 := Tryz.func310.trans (congrArg some (by kernel_rfl))
 f36 := ⟨Tryz.f314.name, by decide, Tryz.func314.trans (congrArg some (by kernel_rfl))⟩
 f37 := ⟨Tryz.f315.name, by decide, Tryz.func315.trans (congrArg some (by kernel_rfl))⟩
 f38 := ⟨Tryz.f316.name, by decide, Tryz.func316.trans (congrArg some (by kernel_rfl))⟩
 f39 := ⟨Tryz.f317.name, by decide, Tryz.func317.trans (congrArg some (by kernel_rfl))⟩
 f41 := ⟨Tryz.f319.name, by decide, Tryz.func319.trans (congrArg some (by kernel_rfl))⟩
 t0 := Tryz.underlying0
 a0 := Tryz.isAgg0
 z0 := Tryz.sizeOf0
 v0 := Tryz.zeroValue0
 t3 := Tryz.underlying3
 a3 := Tryz.isAgg3
 z3 := Tryz.sizeOf3
 v3 := Tryz.zeroValue3
 t4 := Tryz.underlying4
 a4 := Tryz.isAgg4
 z4 := Tryz.sizeOf4
 v4 := Tryz.zeroValue4
 t5 := Tryz.underlying5
 a5 := Tryz.isAgg5
 z5 := Tryz.sizeOf5
 v5 := Tryz.zeroValue5
 t9 := Tryz.underlying9
 a9 := Tryz.isAgg9
 z9 := Tryz.sizeOf9
 v9 := Tryz.zeroValue9
 t26 := Tryz.underlying27
 a26 := Tryz.isAgg27
 z26 := Tryz.sizeOf27
 v26 := Tryz.zeroValue27
 t27 := Tryz.underlying27
 a27 := Tryz.isAgg27
 z27 := Tryz.sizeOf27
 v27 := Tryz.zeroValue27
 t29 := Tryz.underlying9
 a29 := Tryz.isAgg9
 z29 := Tryz.sizeOf9
 v29 := Tryz.zeroValue9
 t32 := Tryz.underlying324
 a32 := Tryz.isAgg324
 z32 := Tryz.sizeOf324
 v32 := Tryz.zeroValue324
 t35 := Tryz.underlying346
 a35 := Tryz.isAgg346
 z35 := Tryz.sizeOf346
 v35 := Tryz.zeroValue346
 t36 := Tryz.underlying347
 a36 := Tryz.isAgg347
 z36 := Tryz.sizeOf347
 v36 := Tryz.zeroValue347
 t41 := Tryz.underlying351
 a41 := Tryz.isAgg351
 z41 := Tryz.sizeOf351
 v41 := Tryz.zeroValue351
 t44 := Tryz.underlying260
 a44 := Tryz.isAgg260
 z44 := Tryz.sizeOf260
 v44 := Tryz.zeroValue260
 t46 := Tryz.underlying273
 a46 := Tryz.isAgg273
 z46 := Tryz.sizeOf273
 v46 := Tryz.zeroValue273
 t53 := Tryz.underlying361
 a53 := Tryz.isAgg361
 z53 := Tryz.sizeOf361
 v53 := Tryz.zeroValue361
 t57 := Tryz.underlying143
 a57 := Tryz.isAgg143
 z57 := Tryz.sizeOf143
 v57 := Tryz.zeroValue143
 t63 := Tryz.underlying373
 a63 := Tryz.isAgg373
 z63 := Tryz.sizeOf373
 v63 := Tryz.zeroValue373
 t64 := Tryz.underlying374
 a64 := Tryz.isAgg374
 z64 := Tryz.sizeOf374
 v64 := Tryz.zeroValue374 }
def Tryz.cloneH_ren : Go.Shelf.Ren := ⟨fun | 5 => 228 | 7 => 275 | n => n, fun | 23 => 137 | 25 => 34 | 3 => 162 | 4 => 4 | 20 => 20 | n => n, fun | n => n⟩
theorem Tryz.cloneH : Go.Proofs.SlLaysW.n5 Tryz.prog Tryz.cloneH_ren := {
 mixed := by kernel_rfl
 f5 := ⟨Tryz.f228.name, by decide, Tryz.func228.trans (congrArg some (by kernel_rfl))⟩
 f7 := Tryz.func275.trans (congrArg some (by kernel_rfl))
 t4 := Tryz.underlying4
 a4 := Tryz.isAgg4
 z4 := Tryz.sizeOf4
 v4 := Tryz.zeroValue4
 t20 := Tryz.underlying20
 a20 := Tryz.isAgg20
 z20 := Tryz.sizeOf20
 v20 := Tryz.zeroValue20
 t23 := Tryz.underlying137
 a23 := Tryz.isAgg137
 z23 := Tryz.sizeOf137
 v23 := Tryz.zeroValue137 }
def Tryz.cloneI_ren : Go.Shelf.Ren := ⟨fun | 5 => 229 | 7 => 275 | n => n, fun | 23 => 139 | 25 => 34 | 3 => 3 | 4 => 4 | 20 => 20 | n => n, fun | n => n⟩
theorem Tryz.cloneI : Go.Proofs.SlLaysW.n5 Tryz.prog Tryz.cloneI_ren := {
 mixed := by kernel_rfl
 f5 := ⟨Tryz.f229.name, by decide, Tryz.func229.trans (congrArg some (by kernel_rfl))⟩
 f7 := Tryz.func275.trans (congrArg some (by kernel_rfl))
 t4 := Tryz.underlying4
 a4 := Tryz.isAgg4
 z4 := Tryz.sizeOf4
 v4 := Tryz.zeroValue4
 t20 := Tryz.underlying20
 a20 := Tryz.isAgg20
 z20 := Tryz.sizeOf20
 v20 := Tryz.zeroValue20
 t23 := Tryz.underlying139
 a23 := Tryz.isAgg139
 z23 := Tryz.sizeOf139
 v23 := Tryz.zeroValue139 }
def Tryz.cloneO_ren : Go.Shelf.Ren := ⟨fun | 5 => 231 | 7 => 275 | n => n, fun | 23 => 138 | 25 => 34 | 3 => 178 | 4 => 4 | 20 => 20 | n => n, fun | n => n⟩
theorem Tryz.cloneO : Go.Proofs.SlLaysW.n5 Tryz.prog Tryz.cloneO_ren := {
 mixed := by kernel_rfl
 f5 := ⟨Tryz.f231.name, by decide, Tryz.func231.trans (congrArg some (by kernel_rfl))⟩
 f7 := Tryz.func275.trans (congrArg some (by kernel_rfl))
 t4 := Tryz.underlying4
 a4 := Tryz.isAgg4
 z4 := Tryz.sizeOf4
 v4 := Tryz.zeroValue4
 t20 := Tryz.underlying20
 a20 := Tryz.isAgg20
 z20 := Tryz.sizeOf20
 v20 := Tryz.zeroValue20
 t23 := Tryz.underlying138
 a23 := Tryz.isAgg138
 z23 := Tryz.sizeOf138
 v23 := Tryz.zeroValue138 }
end Go.Proofs
namespace Go.Proofs.YtpgocpodhamibaaGreatDoor
open Go.RowKit Go.Maps Go.Sort Go.Shelf
open Go.WideElems (Fit rd rg)
theorem owns_of_map {w : World} {m : Nat} {ps : List (Str × Value)} (h : MapAt strE w m ps) (hn : (ps.map (·.1)).Nodup) (hs : ∀ p ∈ ps, sfit p.1) (hl : ps.length ≤ 100000000) :
 ∃ D : DataW Unit, w.ownsMap Tryz.prog 9 (fun _ => some (.nil, [])) m ps.length D ∧ (strKeys D).Perm (ps.map fun p => p.1.data.toList) ∧ Maps.size D = ps.length := by
 obtain ⟨es, clk, hh, he, hp, hc⟩ := h
 have hlen : es.size = ps.length := pair_len he
 have hk : es.toList.map (·.key) = ps.map (fun p => Value.string p.1) := by
  have := congrArg (List.map Prod.fst) he
  simpa [List.map_map, Function.comp_def] using this
 have hread : ∀ x ∈ es.toList, ∃ s : Str, x.key = .string s ∧ sfit s := fun x hx => by
  have : x.key ∈ ps.map (fun p => Value.string p.1) := hk ▸ List.mem_map.2 ⟨x, hx, rfl⟩
  obtain ⟨p, hp, e⟩ := List.mem_map.1 this
  exact ⟨p.1, e.symm, hs p hp⟩
 have hrd : ∀ x ∈ es.toList, ∀ s : Str, x.key = .string s → sfit s → rd Tryz.prog 9 (fun _ => some ((DataW.nil : DataW Unit), ([] : List MemPlace))) x = some (.string s.data.toList, .nil) := fun x _ s e hf => by
  obtain ⟨key, val, born⟩ := x
  simp only at e
  subst e
  exact Go.WideElems.rd_mk (R := fun _ => some ((DataW.nil : DataW Unit), ([] : List MemPlace))) (val := val) (born := born) (yv := ((DataW.nil : DataW Unit), ([] : List MemPlace))) (Go.WideMaps.keyOf_string_mk Tryz.underlying9 (by unfold sfit at hf; unfold maxLen; omega)) rfl
 refine ⟨_, ⟨es, clk, hh, ⟨by rw [hlen]; unfold maxLen; omega, ⟨hc, hp.imp (fun h => Nat.ne_of_lt h), ?_⟩, fun x hx => ?_⟩, by rw [hlen]; exact Nat.le_refl _, rfl⟩, ?_, ?_⟩
 ·rw [hk]
  have : (ps.map fun p => Value.string p.1) = (ps.map (·.1)).map Value.string := by simp [List.map_map, Function.comp_def]
  rw [this]
  exact hn.map Value.string (fun a b hne e => hne (by injection e))
 ·obtain ⟨s, e, hf⟩ := hread x hx
  exact ⟨_, hrd x hx s e hf⟩
 ·have h1 : (strKeys (DataW.map ((es.toList.map (rg Tryz.prog 9 (fun _ => some ((DataW.nil : DataW Unit), ([] : List MemPlace))))).foldr DataW.insert []))).Perm ((es.toList.map (rg Tryz.prog 9 (fun _ => some ((DataW.nil : DataW Unit), ([] : List MemPlace))))).map fun p => strOf p.1) :=
   (Go.WideShapes.sorted_perm _).map _
  refine h1.trans (List.Perm.of_eq ?_)
  rw [List.map_map]
  have h2 : (ps.map fun p => p.1.data.toList) = es.toList.map fun x => (match x.key with | .string s => s.data.toList | _ => []) := by
   have := congrArg (List.map fun v : Value => match v with | .string s => s.data.toList | _ => ([] : List UInt8)) hk
   simp only [List.map_map, Function.comp_def] at this
   exact this.symm
  rw [h2]
  refine List.map_congr_left fun x hx => ?_
  obtain ⟨s, e, hf⟩ := hread x hx
  simp only [Function.comp_def, Go.WideElems.rg_of (hrd x hx s e hf), e, strOf]
 ·show (List.foldr DataW.insert [] _).length = _
  rw [length_sorted, List.length_map, Array.length_toList, hlen]
theorem sortS_enc (l : List Str) (ss : List (List UInt8)) (h : ss.Perm (l.map fun s => s.data.toList)) : (ss.mergeSort fun x y => decide (x ≤ y)).map encStr = (sortS l).map Value.string := by
 have h1 := mergeSort_of_perm h
 unfold leB at h1
 rw [h1]
 unfold sortS
 rw [← List.map_mergeSort (r := fun a b : Str => decide (a.data.toList ≤ b.data.toList)) (f := fun s : Str => s.data.toList) (fun a _ b _ => rfl), List.map_map]
 refine List.map_congr_left fun s _ => ?_
 simp [encStr]
theorem sortS_perm (l : List Str) : (sortS l).Perm l := List.mergeSort_perm _ _
theorem sortS_len (l : List Str) : (sortS l).length = l.length := (sortS_perm l).length_eq
def GotStrs (B : Nat) (l : List Str) (e : Ending) (w' : World) : Prop := ∃ v, e = .returned v ∧ StrR.Own w' B 9 (fun _ => False) v l
theorem str_plain : StrR.Plain := fun _ _ _ _ _ _ h => h
theorem sortsA (m : Nat) : AnyZ.SortsIn Tryz.prog Tryz.sortedA_ren Fence.wide m :=
 ⟨fun blk off cap ss W hH hblk hsz => callsIn_wide.2 (AnyM.slices_Sort_string Tryz.sortA blk off cap ss W hH hblk hsz),
  fun p cap W => callsIn_wide.2 (AnyM.slices_Sort_string_none Tryz.sortA p cap W)⟩
theorem keysS_any (mb : Option Nat) (W : World) : Calls Tryz.prog 279 #[.map mb] W fun e w' => e = .returned (.func (.func 298) #[] #[.pointer (some ⟨W.heap.size, 0, none⟩)]) ∧ w' = W.alloc (.cells #[.map mb] 215) :=
 callsIn_wide.1 (AnyZ.keys_in Tryz.keysS Fence.wide 5 trivial rfl mb W)
theorem sortedS_any (bx m : Nat) (ps : List (Str × Value)) (w : World) (hb : w.cell? ⟨bx, 0, none⟩ = some (.map (some m))) (h : MapAt strE w m ps) (hn : (ps.map (·.1)).Nodup) (hs : ∀ p ∈ ps, sfit p.1) (hl : ps.length ≤ 100000000) :
 Calls Tryz.prog 173 #[.func (.func 298) #[] #[.pointer (some ⟨bx, 0, none⟩)]] w fun e w' => GotStrs w.heap.size (sortS (ps.map (·.1))) e w' ∧ Below w.heap.size w w' := by
 obtain ⟨D, hD, hk, hz⟩ := owns_of_map h hn hs hl
 have hseq : SeqGives Fence.wide 2 Tryz.prog 298 #[.pointer (some ⟨bx, 0, none⟩)] encStr (fun ss => ss.Perm (strKeys D)) (Maps.size D) w :=
  AnyZ.keys_gives (ρ := Tryz.keysS_ren) { Tryz.keysS with } Fence.wide _ trivial rfl (by omega) bx m ps.length D _ (lt_of_cell hb) hb hD
 have cS := AnyZ.sorted_in Tryz.sortedA Fence.wide 5 trivial trivial trivial trivial rfl (by omega) (sortsA _) (enters_of Tryz.func245 (by kernel_rfl) rfl) 298 #[.pointer (some ⟨bx, 0, none⟩)] trivial (enters_of Tryz.func298 (by kernel_rfl) rfl) _ _ (by rw [hz]; unfold maxLen; omega) (by rw [hz]; omega) _ hseq
 refine (callsIn_wide.1 cS).mono ?_
 rintro e w' ⟨v, ss, rfl, hp, hrow, _, hb'⟩
 refine ⟨⟨v, rfl, ?_⟩, hb'⟩
 have h2 : ss.Perm ((ps.map (·.1)).map fun s : Str => s.data.toList) := by
  have := hp.trans hk
  simpa [List.map_map, Function.comp_def] using this
 rw [sortS_enc _ _ h2, h2.length_eq, List.length_map] at hrow
 have hlen := sortS_len (ps.map (·.1))
 refine ⟨_, by rw [hlen]; exact hrow, str_flat fun s hsm => ?_⟩
 have : s ∈ ps.map (·.1) := (sortS_perm _).mem_iff.1 hsm
 obtain ⟨p, hp, rfl⟩ := List.mem_map.1 this
 exact hs p hp
theorem sortedNilS_any (bx : Nat) (w : World) (hb : w.cell? ⟨bx, 0, none⟩ = some (.map none)) :
 Calls Tryz.prog 173 #[.func (.func 298) #[] #[.pointer (some ⟨bx, 0, none⟩)]] w fun e w' => GotStrs w.heap.size [] e w' ∧ Below w.heap.size w w' := by
 have hseq : SeqGives Fence.wide 2 Tryz.prog 298 #[.pointer (some ⟨bx, 0, none⟩)] encStr (fun ss : List (List UInt8) => ss = []) 0 w :=
  AnyZ.keys_gives_nil (ρ := Tryz.keysS_ren) { Tryz.keysS with } Fence.wide _ trivial rfl bx _ (lt_of_cell hb) hb
 have cS := AnyZ.sorted_in Tryz.sortedA Fence.wide 5 trivial trivial trivial trivial rfl (by omega) (sortsA _) (enters_of Tryz.func245 (by kernel_rfl) rfl) 298 #[.pointer (some ⟨bx, 0, none⟩)] trivial (enters_of Tryz.func298 (by kernel_rfl) rfl) _ 0 (Nat.zero_le _) (by omega) _ hseq
 refine (callsIn_wide.1 cS).mono ?_
 rintro e w' ⟨v, ss, rfl, rfl, hrow, hnil, hb'⟩
 obtain rfl : v = .slice none 0 0 := hnil.2 rfl
 exact ⟨⟨_, rfl, Rep.Own.nil_⟩, hb'⟩
theorem keysK_any (mb : Option Nat) (W : World) : Calls Tryz.prog 174 #[.map mb] W fun e w' => e = .returned (.func (.func 246) #[] #[.pointer (some ⟨W.heap.size, 0, none⟩)]) ∧ w' = W.alloc (.cells #[.map mb] 239) :=
 callsIn_wide.1 (AnyZ.keys_in Tryz.keysK Fence.wide 5 trivial rfl mb W)
theorem sortedK_any (bx m : Nat) (ps : List (Str × Value)) (w : World) (hb : w.cell? ⟨bx, 0, none⟩ = some (.map (some m))) (h : MapAt strE w m ps) (hn : (ps.map (·.1)).Nodup) (hs : ∀ p ∈ ps, sfit p.1) (hl : ps.length ≤ 100000000) :
 Calls Tryz.prog 173 #[.func (.func 246) #[] #[.pointer (some ⟨bx, 0, none⟩)]] w fun e w' => GotStrs w.heap.size (sortS (ps.map (·.1))) e w' ∧ Below w.heap.size w w' := by
 obtain ⟨D, hD, hk, hz⟩ := owns_of_map h hn hs hl
 have hseq : SeqGives Fence.wide 2 Tryz.prog 246 #[.pointer (some ⟨bx, 0, none⟩)] encStr (fun ss => ss.Perm (strKeys D)) (Maps.size D) w :=
  AnyZ.keys_gives (ρ := Tryz.keysK_ren) { Tryz.keysK with } Fence.wide _ trivial rfl (by omega) bx m ps.length D _ (lt_of_cell hb) hb hD
 have cS := AnyZ.sorted_in Tryz.sortedA Fence.wide 5 trivial trivial trivial trivial rfl (by omega) (sortsA _) (enters_of Tryz.func245 (by kernel_rfl) rfl) 246 #[.pointer (some ⟨bx, 0, none⟩)] trivial (enters_of Tryz.func246 (by kernel_rfl) rfl) _ _ (by rw [hz]; unfold maxLen; omega) (by rw [hz]; omega) _ hseq
 refine (callsIn_wide.1 cS).mono ?_
 rintro e w' ⟨v, ss, rfl, hp, hrow, _, hb'⟩
 refine ⟨⟨v, rfl, ?_⟩, hb'⟩
 have h2 : ss.Perm ((ps.map (·.1)).map fun s : Str => s.data.toList) := by
  have := hp.trans hk
  simpa [List.map_map, Function.comp_def] using this
 rw [sortS_enc _ _ h2, h2.length_eq, List.length_map] at hrow
 have hlen := sortS_len (ps.map (·.1))
 refine ⟨_, by rw [hlen]; exact hrow, str_flat fun s hsm => ?_⟩
 have : s ∈ ps.map (·.1) := (sortS_perm _).mem_iff.1 hsm
 obtain ⟨p, hp, rfl⟩ := List.mem_map.1 this
 exact hs p hp
set_option maxHeartbeats 800000 in
theorem names_any (tb : Nat) (T : Tab) (P : Nat → Prop) (w : World) (h : TabAt w P tb T) (hl : T.length ≤ 100000000) : Calls Tryz.prog 241 #[ptrV tb] w fun e w' => GotStrs w.heap.size (sortS (T.map (·.1))) e w' ∧ Below w.heap.size w w' := by
 unfold ptrV
 obtain ⟨hp, ⟨hb, rfl⟩ | ⟨m, TA, hb, hm, hA, rfl⟩⟩ := h
 ·have b0 : w.cell? ⟨tb, 0, none⟩ = some (.map none) := hb.cell 0
  have C1 := keysS_any none w
  have C2 := sortedNilS_any w.heap.size (w.alloc (.cells #[.map none] 215)) ((Blk.new w 215 [.map none]).cell 0)
  go_enter Tryz.func241, Tryz.ntmps241
  go_wp2_with fail
  refine C1.mono ?_
  clear C1
  rintro e w1 ⟨rfl, rfl⟩
  go_wp2_with fail
  refine C2.mono ?_
  clear C2
  rintro e w2 ⟨⟨v, rfl, ho⟩, hb2⟩
  go_wp2_with fail
  go_ret
  have ho' : StrR.Own w2 w.heap.size 9 (fun _ => False) v [] := by
   obtain ⟨xs, h1, h2⟩ := ho
   exact ⟨xs, h1.base_ fun g hg => by have := (h1.lt g hg).1; simp at this; omega, h2⟩
  exact ⟨⟨v, rfl, by simpa [sortS] using ho'⟩, ((jb _ _).al _).tr hb2⟩
 ·have b0 : w.cell? ⟨tb, 0, none⟩ = some (.map (some m)) := hb.cell 0
  have C1 := keysS_any (some m) w
  have hpf : TA.ptrs.map (·.1) = TA.tab.map (·.1) := by simp [TabA.ptrs, TabA.tab]
  have C2 := sortedS_any w.heap.size m TA.ptrs (w.alloc (.cells #[.map (some m)] 215)) ((Blk.new w 215 [.map (some m)]).cell 0) (hA.map.alloc _) (by rw [hpf, tab_fst]; exact hA.nd)
   (fun p hp => by
    obtain ⟨q, hq, rfl⟩ := List.mem_map.1 hp
    exact (hA.each q hq).2.2.2) (by simpa [TabA.ptrs, TabA.tab] using hl)
  rw [hpf] at C2
  clear hA hpf
  go_enter Tryz.func241, Tryz.ntmps241
  go_wp2_with fail
  refine C1.mono ?_
  clear C1
  rintro e w1 ⟨rfl, rfl⟩
  go_wp2_with fail
  refine C2.mono ?_
  clear C2
  rintro e w2 ⟨⟨v, rfl, ho⟩, hb2⟩
  go_wp2_with fail
  go_ret
  refine ⟨⟨v, rfl, ?_⟩, ((jb _ _).al _).tr hb2⟩
  obtain ⟨xs, h1, h2⟩ := ho
  exact ⟨xs, h1.base_ fun g hg => by have := (h1.lt g hg).1; simp at this; omega, h2⟩
open Go.RowKit
set_option maxHeartbeats 400000 in
theorem someNot_any (r : Range) (b : Nat) (s : Str) (w : World) (hs : sfit s) (hb : Blk w b 40 r.cells) : Calls Tryz.prog 242 #[.string s, .pointer (some ⟨b, 0, none⟩)] w fun e w' => e = .returned (.bool (!inR r s)) ∧ Below w.heap.size w w' := by
 have C := in_any r s w hs
 have b0 : w.cell? ⟨b, 0, none⟩ = some (.int .i64 r.first) := hb.cell 0
 have b1 : w.cell? ⟨b, 1, none⟩ = some (.int .i64 r.last) := hb.cell 1
 have b2 : w.cell? ⟨b, 2, none⟩ = some (.int .i64 r.owner) := hb.cell 2
 have b3 : w.cell? ⟨b, 3, none⟩ = some (.int .i64 r.epoch) := hb.cell 3
 unfold Range.val at C
 clear hb
 go_enter Tryz.func242, Tryz.ntmps242
 go_wp2_with fail
 refine C.mono ?_
 clear C
 rintro e w1 ⟨rfl, hb1⟩
 go_wp2_with fail
 go_ret
 exact ⟨rfl, hb1⟩
theorem TabAt.fits {w : World} {P : Nat → Prop} {tb : Nat} {T : Tab} (h : TabAt w P tb T) : ∀ p ∈ T, sfit p.1 := by
 obtain ⟨h1, ⟨hb, rfl⟩ | ⟨m, TA, hb, hm, hA, rfl⟩⟩ := h
 ·simp
 ·intro p hp
  obtain ⟨q, hq, rfl⟩ := List.mem_map.1 hp
  exact (hA.each q hq).2.2.2
theorem Rep.Own.base' {α : Type} {R : Rep α} {w : World} {base base' e : Nat} {S : Nat → Prop} {v : Value} {l : List α} (h : R.Own w base e S v l) (hb : base' ≤ base) : R.Own w base' e S v l := by
 obtain ⟨xs, h1, h2⟩ := h
 exact ⟨xs, h1.base_ fun g hg => Nat.le_trans hb (h1.lt g hg).1, h2⟩
set_option maxHeartbeats 800000 in
theorem some_any (tb : Nat) (T : Tab) (r : Range) (P : Nat → Prop) (w : World) (h : TabAt w P tb T) (hl : T.length ≤ 100000000) : Calls Tryz.prog 172 #[ptrV tb, r.val] w fun e w' => GotStrs w.heap.size (someT T r) e w' ∧ Below w.heap.size w w' := by
 have hb0 := (jb w.heap.size w).al (.cells r.cells.toArray 40)
 have C := names_any tb T P (w.alloc (.cells r.cells.toArray 40)) (h.ext hb0) hl
 have B0 := Blk.new w 40 r.cells
 have HFT := jh h.fits
 have HE := jh (show someT T r = (sortS (T.map (·.1))).filter (fun s => !(!inR r s)) from by unfold someT; simp)
 unfold ptrV at C ⊢
 unfold Range.val
 unfold Range.cells at C B0 hb0
 clear h
 go_enter Tryz.func172, Tryz.ntmps172
 go_wp2_with fail
 refine C.mono ?_
 clear C
 rintro e w1 ⟨⟨v, rfl, ho⟩, hb1⟩
 have hlt := ho.lt
 have B1 := B0.ext hb1
 have hz1 := hb1.size
 simp only [World.size_alloc] at hz1 hlt
 have D := delF_any 242 [.pointer (some ⟨w.heap.size, 0, none⟩)] (fun s => !inR r s) (enters_of Tryz.func242 (by kernel_rfl) rfl) v _ _ _ w1 ho (fun s W hs hW => by
  have : s ∈ T.map (·.1) := (sortS_perm _).mem_iff.1 hs
  obtain ⟨p, hp, rfl⟩ := List.mem_map.1 this
  exact someNot_any r w.heap.size p.1 W (HFT.out p hp) (B1.only hW (fun h => by have := (hlt _ h).1; omega)))
 clear B0
 go_wp2_with fail
 refine D.mono ?_
 clear D
 rintro e w2 ⟨⟨v2, rfl, ho2⟩, hb2⟩
 go_wp2_with fail
 go_ret
 refine ⟨⟨v2, rfl, ?_⟩, (hb0.tr hb1).trans (hb2.low (fun g hg => by have := (hlt g hg).1; omega) (by omega))⟩
 rw [HE.out]
 exact ho2.base' (by simp)
theorem stream_info : (Tryz.prog.info? 61).map (fun i => (i.zero, i.size, i.bytes)) = some (some (.agg #[.string ⟨#[]⟩, .slice none 0 0, .slice none 0 0]), 3, 64) := by kernel_rfl
theorem known_info : (Tryz.prog.info? 70).map (fun i => (i.zero, i.size, i.bytes)) = some (some (.agg #[.string ⟨#[]⟩, .int .i64 0, .int .i64 0, .int .i64 0, .int .i64 0]), 5, 48) := by kernel_rfl
theorem TSAt.inlt {w : World} {s : SB} {ts : TS} (h : TSAt w s ts) : s.In (· < w.heap.size) := ⟨h.blk.lt, h.km.lt, fun g hg => (h.ev.lt g hg).2⟩
theorem someT_get {T : Tab} {r : Range} {n : Str} (h : n ∈ someT T r) : ∃ ts, getA n T = some ts := by
 have h1 : n ∈ T.map (·.1) := (sortS_perm _).mem_iff.1 (List.mem_filter.1 h).1
 cases hg : getA n T with
 | none => exact absurd h1 (getA_none.1 hg)
 | some ts => exact ⟨ts, rfl⟩
theorem Same.of_only' {P F : Nat → Prop} {w w' : World} (h : Only F w w') (hd : ∀ g, P g → g < w.heap.size → ¬ F g) : Same P w w' := fun g hp hg => h.block g hg (hd g hp hg)
structure TkD (xb : Nat) (n : Str) (ev kv : Value) (s : SB) (ts : TS) (W : World) : Prop where
 x : Blk W xb 61 [.string n, ev, kv]
 s : TSAt W s ts
theorem TkD.cell2 {xb : Nat} {n : Str} {ev kv : Value} {s : SB} {ts : TS} (d : Wd (TkD xb n ev kv s ts)) : d.w.cell? ⟨xb, 2, none⟩ = some kv := d.ok.x.cell 2
theorem TkD.km {xb : Nat} {n : Str} {ev kv : Value} {s : SB} {ts : TS} (d : Wd (TkD xb n ev kv s ts)) : d.w.cell? ⟨s.b, 1, none⟩ = some (.map (some s.km)) := d.ok.s.blk.cell 1
theorem TkD.look {xb : Nat} {n key : Str} {ev kv : Value} {s : SB} {ts : TS} {x : Known} (h : getA key ts.keys = some x) (d : Wd (TkD xb n ev kv s ts)) :
 (Instr.lookup 239 (.map (some s.km)) (.string key) false).run Tryz.prog d.w = .ok (.agg #[.string x.key, .int .i64 x.first, .int .i64 x.stamp.wall, .int .i64 x.stamp.logic, .int .i64 x.stamp.node]) d.w := by
 have := run_lookup_map strKey Tryz.underlying239 d.ok.s.km key _ (zero_known d.w) false
 rw [if_neg (by simp), keys_get, h] at this
 exact this
theorem TkD.ext {xb : Nat} {n : Str} {ev kv : Value} {s : SB} {ts : TS} {w w' : World} (h : TkD xb n ev kv s ts w) (hb : Below w.heap.size w w') : TkD xb n ev kv s ts w' := ⟨h.x.ext hb, h.s.same h.s.inlt (Same.of_below hb)⟩
theorem TkD.only {xb : Nat} {n : Str} {ev kv : Value} {s : SB} {ts : TS} {w w' : World} {F : Nat → Prop} (h : TkD xb n ev kv s ts w) (hb : Only F w w') (h1 : ¬ F xb) (h2 : s.In fun g => ¬ F g) : TkD xb n ev kv s ts w' := ⟨h.x.only hb h1, h.s.same h2 (Same.of_only hb fun _ h => h)⟩
theorem take_map {α β : Type} (f : α → β) (l : List α) (k : Nat) (h : k < l.length) : (l.map f).take (k + 1) = (l.map f).take k ++ [f l[k]] := by
 rw [take_snoc _ _ (by simpa using h), List.getElem_map]
set_option maxRecDepth 20000 in
set_option maxHeartbeats 3200000 in
theorem take_any (tb : Nat) (T : Tab) (r : Range) (P : Nat → Prop) (w : World) (h : TabAt w P tb T) (hl : T.length ≤ 40000) (hf : ∀ p ∈ T, p.2.events.length ≤ 40000 ∧ p.2.keys.length ≤ 40000) :
 Calls Tryz.prog 85 #[ptrV tb, r.val] w fun e w' => GotOwn StreamR w.heap.size 61 (fun g => w.heap.size ≤ g) (takeT T r) e w' ∧ Below w.heap.size w w' := by
 have hb0 := (jb w.heap.size w).al (.cells r.cells.toArray 40)
 have C := some_any tb T r P (w.alloc (.cells r.cells.toArray 40)) (h.ext hb0) (by omega)
 obtain ⟨i0, hi0, hz0, hz1, hz2⟩ := info_parts stream_info
 have HI0 := jh (ja hi0 (ja hz0 (ja hz1 hz2)))
 clear hi0 hz0 hz1 hz2
 obtain ⟨i1, hi1, hk0, hk1, hk2⟩ := info_parts known_info
 have HI1 := jh (ja hi1 (ja hk0 (ja hk1 hk2)))
 clear hi1 hk0 hk1 hk2
 have HT := jh h
 have HF := jh hf
 have hsl : Hid ((someT T r).length ≤ 40000) := jh <| by
  have h1 : (someT T r).length ≤ (sortS (T.map (·.1))).length := List.length_filter_le _ _
  rw [sortS_len, List.length_map] at h1
  omega
 unfold ptrV at C ⊢
 unfold Range.val at C ⊢
 unfold Range.cells at C hb0
 clear h hf
 go_enter Tryz.func85, Tryz.ntmps85
 go_wp2_with fail
 refine C.mono ?_
 clear C
 rintro e w1 ⟨⟨v, rfl, ho⟩, hb1⟩
 have hw1 := hb0.tr hb1
 have hz1 := hb1.size
 simp only [World.size_alloc] at hz1
 obtain ⟨A, c, rfl, hc1, hc2⟩ := ho.form
 have HN := jh (ho.row' (P := fun _ => True) str_plain (fun _ _ => trivial))
 clear ho hb1 hb0
 generalize hns : someT T r = ns at *
 have HNS := jh hns
 clear hns
 have hsl' := hsl.out
 go_wp2_with fail
 go_loopw [4, 15] (fun out i wr => ∃ (k : Nat), k ≤ ns.length ∧ i = .int .i64 k ∧ StreamR.Own wr w1.heap.size 61 (fun g => w1.heap.size ≤ g) out ((takeT T r).take k) ∧ Below w1.heap.size w1 wr) (fun _ i _ => ns.length - (intOf i).toNat)
 case atStart => exact ⟨0, Nat.zero_le _, rfl, by simpa using Rep.Own.nil_, jb _ _⟩
 case round =>
  obtain ⟨k, hk, rfl, hout, hbl⟩ := hrel
  have HO := jh hout; clear hout
  by_cases hlt : k < ns.length
  ·have hlk := List.getElem?_eq_getElem hlt
   have htk := take_map (fun n => streamOf n ((getA n T).getD ⟨[], []⟩)) ns k hlt
   obtain ⟨ts, hts⟩ := someT_get (T := T) (r := r) (by rw [HNS.out]; exact List.getElem_mem hlt : ns[k] ∈ someT T r)
   generalize ns[k] = n at hlk hts htk
   rw [hts, Option.getD_some] at htk
   have HTK := jh (show (takeT T r).take (k + 1) = (takeT T r).take k ++ [streamOf n ts] from by
    have : takeT T r = ns.map fun n => streamOf n ((getA n T).getD ⟨[], []⟩) := by rw [← HNS.out]; rfl
    rw [this]; exact htk)
   obtain ⟨bb, o, cs, rfl, hP, hbw, ⟨rfl, hsf⟩, hcs⟩ := (HN.out.ext hbl).at_ hlk
   have c0 := hcs 0 _ rfl; simp only [StrR_size, Nat.add_zero, Nat.mul_one] at c0
   obtain ⟨m, TA, htbb, hmm, hA, hTe⟩ : ∃ m TA, Blk wr tb 217 [.map (some m)] ∧ P m ∧ StrsAt wr P m TA ∧ T = TabA.tab TA := by
    obtain ⟨_, ⟨_, e⟩ | h⟩ := HT.out.ext (hw1.trans (hbl.mono hw1.size))
    ·exfalso; rw [e] at hts; cases hts
    ·exact h
   have b0 : wr.cell? ⟨tb, 0, none⟩ = some (.map (some m)) := htbb.cell 0
   have htg := tab_get TA n
   have hpg := ptrs_get TA n
   rw [← hTe, hts] at htg
   cases hq : getA n TA with
   | none => rw [hq] at htg; cases htg
   | some q =>
   obtain ⟨ts', s⟩ := q
   rw [hq] at htg hpg
   obtain rfl : ts = ts' := by injection htg
   rw [← assocOf_eq] at hpg
   have HPG := jh hpg
   have HM := hA.map
   obtain ⟨hs0, _, _, _⟩ := hA.each _ (getA_mem hq)
   simp only at hs0
   have HFT := HF.out _ (getA_mem hts)
   simp only at HFT
   obtain ⟨Ae, ce, hev, _⟩ := hs0.ev.form
   have e0 : wr.cell? ⟨s.b, 0, none⟩ = some (.slice Ae ts.events.length ce) := by rw [← hev]; exact hs0.blk.cell 0
   have hrowE := (hev ▸ hs0.ev : EventR.Own wr 0 63 (fun _ => False) (.slice Ae ts.events.length ce) ts.events).row' (P := fun _ => True) event_plain (fun _ _ => trivial)
   have CE := clone_Event Ae ce ts.events _ wr hrowE (by omega)
   have HS0 := jh hs0
   have HQ := jh (ja hts htg)
   clear hcs hlk hts htg hpg hq htk hA htbb hs0 hrowE hev hmm
   have hlt' : (k : Int) < ns.length := by omega
   go_wp2_with (first
    | (at_lookup; refine wpList_lookup_one (some (ptrV s.b)) strKey rfl (.tmp 22) (.tmp 23) 215 rfl Tryz.underlying215 rfl HM n rfl HPG.out _ (zero_sptr _) ?_; simp only [Option.getD_some, ptrV])
    | fail)
   refine CE.mono ?_
   clear CE
   rintro e w2 ⟨⟨ve, rfl, hoe⟩, hb2⟩
   have hz2 := hb2.size
   have hoe := hoe.plain (S' := fun _ => False) event_plain
   have hb3 := hb2.al (.cells #[.string n, ve, .slice none 0 0] 61)
   have hs3 := HS0.out.same HS0.out.inlt (Same.of_belowB hb3 (fun g h => h))
   have B3 := Blk.new w2 61 [.string n, ve, .slice none 0 0]
   have C1 := keysK_any (some s.km) (w2.alloc (.cells #[.string n, ve, .slice none 0 0] 61))
   have hb4 := hb3.al (.cells #[.map (some s.km)] 239)
   have hs4 := HS0.out.same HS0.out.inlt (Same.of_belowB hb4 (fun g h => h))
   have C2 := sortedK_any (w2.heap.size + 1) s.km _ ((w2.alloc (.cells #[.string n, ve, .slice none 0 0] 61)).alloc (.cells #[.map (some s.km)] 239)) ((Blk.new1 w2 _ 239 [.map (some s.km)]).cell 0) hs4.km
    (by simpa [List.map_map, Function.comp_def] using hs4.nd) (fun p hp => by obtain ⟨q, hq, rfl⟩ := List.mem_map.1 hp; exact (hs4.fit q hq).2) (by simp; omega)
   rw [show (ts.keys.map fun p => (p.1, p.2.val)).map (·.1) = ts.keys.map (·.1) from by simp [List.map_map, Function.comp_def]] at C2
   have km0 : (w2.alloc (.cells #[.string n, ve, .slice none 0 0] 61)).cell? ⟨s.b, 1, none⟩ = some (.map (some s.km)) := hs3.blk.cell 1
   clear hs3 hs4
   obtain ⟨Av, cv, rfl, _⟩ := hoe.form
   have HLE := jh (show ∀ g, (Value.slice Av ts.events.length cv).ownBlock = some g → g < w2.heap.size from fun g hg => (hoe.lt g hg).2)
   go_wp2_with fail
   refine C1.mono ?_
   clear C1
   rintro e w4 ⟨rfl, rfl⟩
   go_wp2_with fail
   refine C2.mono ?_
   clear C2
   rintro e w5 ⟨⟨vk, rfl, hok⟩, hb5⟩
   have B5 := (B3.alloc (.cells #[.map (some s.km)] 239)).ext hb5
   have hz5 := hb5.size
   simp only [World.size_alloc] at hz5 hok
   have hwr5 := hb4.tr hb5
   have hs5 := HS0.out.same HS0.out.inlt (Same.of_belowB hwr5 (fun g h => h))
   have hoe5 : EventR.Own w5 wr.heap.size 63 (fun _ => False) _ _ := hoe.ext (((jb w2.heap.size w2).al _).al _ |>.tr hb5)
   have HO5 := jh ((HO.out.mono (S' := fun g => w1.heap.size ≤ g ∧ g < wr.heap.size) (fun g h1 h2 => ⟨h1, h2⟩)).ext hwr5)
   have hltu := HO.out.lt
   obtain ⟨Ak, ck, rfl, _⟩ := hok.form
   have hklen : (sortS (ts.keys.map (·.1))).length ≤ 40000 := by rw [sortS_len, List.length_map]; omega
   have hlts := HS0.out.inlt
   have HKR := jh (hok.row' (P := fun g => w2.heap.size + 1 ≤ g) str_plain (fun g hg => by have := (hok.lt g hg).1; omega))
   have HS5 := jh (ja hs5 (ja B5 (ja hoe5 hwr5)))
   clear B3 hb3 hb4 hb5 km0 hs5 B5 hoe5 hwr5 hoe hok HM
   generalize hks : sortS (ts.keys.map (·.1)) = ks at *
   have HKS := jh hks
   clear hks
   have hkk : ∀ key ∈ ks, ∃ x, getA key ts.keys = some x := fun key hk => by
    rw [← HKS.out] at hk
    have h1 : key ∈ ts.keys.map (·.1) := (sortS_perm _).mem_iff.1 hk
    cases hg : getA key ts.keys with
    | none => exact absurd h1 (getA_none.1 hg)
    | some x => exact ⟨x, rfl⟩
   have HKK := jh hkk; clear hkk
   have hz25 : wr.heap.size ≤ w2.heap.size ∧ w2.heap.size + 2 ≤ w5.heap.size ∧ w1.heap.size ≤ wr.heap.size := ⟨hz2, by omega, hbl.size⟩
   have hlte := HLE.out
   have hwr1 : Below w1.heap.size w1 w5 := hbl.trans (HS5.out.2.2.2.mono hbl.size)
   have hbe5 : EventR.Own w5 wr.heap.size 63 (fun _ => False) (.slice Av ts.events.length cv) ts.events := HS5.out.2.2.1
   have HS5' := jh (ja HS5.out.1 HS5.out.2.1)
   clear HS5 hz2 hbl HS0 HPG b0 e0 hbw hb2
   generalize wr.heap.size = z0 at *
   have HOE := jh (ja hbe5 hlte)
   clear hbe5 hlte
   go_wp2_with fail
   go_loopw [39] (fun j wq => ∃ (i : Nat) (kv : Value), i ≤ ks.length ∧ j = .int .i64 i ∧ Blk wq w2.heap.size 61 [.string n, .slice Av ts.events.length cv, kv] ∧ KnownR.Own wq w5.heap.size 70 (fun _ => False) kv ((ks.map fun k => (getA k ts.keys).getD zeroKnown).take i) ∧ Only (fun g => g = w2.heap.size ∨ w5.heap.size ≤ g) w5 wq) (fun j _ => ks.length - (intOf j).toNat)
   case atStart => exact ⟨0, _, Nat.zero_le _, rfl, HS5'.out.2, by simpa using Rep.Own.nil_, Only.refl _ _⟩
   case round =>
    obtain ⟨i, kv, hik, rfl, hBx, hkv, hq⟩ := hrel
    have hTS := HS5'.out.1.same hlts (Same.of_only' hq (fun g hg _ h => by rcases h with h | h <;> omega))
    by_cases hit : i < ks.length
    ·have hli := List.getElem?_eq_getElem hit
     have htk := take_map (fun k => (getA k ts.keys).getD zeroKnown) ks i hit
     obtain ⟨x, hx⟩ := HKK.out _ (List.getElem_mem hit)
     generalize ks[i] = key at hli htk hx
     rw [hx, Option.getD_some] at htk
     obtain ⟨kb, ko, cs, rfl, _, _, ⟨rfl, hsk⟩, hcs⟩ := (HKR.out.same (Same.of_only' hq (fun g hg hl h => by rcases h with h | h <;> omega)) hq.size).at_ hli
     have c0 := hcs 0 _ rfl; simp only [StrR_size, Nat.add_zero, Nat.mul_one] at c0
     have HX := jh (ja htk hx)
     have LK := TkD.look (xb := w2.heap.size) (n := n) (ev := .slice Av ts.events.length cv) (kv := kv) (s := s) hx
     have hD : TkD w2.heap.size n (.slice Av ts.events.length cv) kv s ts wr := ⟨hBx, hTS⟩
     have hit' : (i : Int) < ks.length := by omega
     clear hcs hli htk hx
     have HH := jh (ja hBx (ja hTS (ja hkv hq)))
     clear hBx hTS hkv hq
     go_upto_region 9 with fail
     clear c0
     haveI : Nonempty (Wd (TkD w2.heap.size n (.slice Av ts.events.length cv) kv s ts)) := ⟨⟨wr, hD⟩⟩
     have y2 := TkD.cell2 (xb := w2.heap.size) (n := n) (ev := .slice Av ts.events.length cv) (kv := kv) (s := s) (ts := ts)
     have y1 := TkD.km (xb := w2.heap.size) (n := n) (ev := .slice Av ts.events.length cv) (kv := kv) (s := s) (ts := ts)
     refine wp_region_mix (.seg [0, 1, 2, 3, 4, 5, 6, 7] 8 (.seg [] 9 (.last [10] 11))) (fun w' => ∃ d : Wd (TkD w2.heap.size n (.slice Av ts.events.length cv) kv s ts), w' = d.w) (by kernel_rfl) (by kernel_rfl) (fun _ _ d _ _ h => by cases d <;> exact h) (ClsW.mk (D := TkD w2.heap.size n (.slice Av ts.events.length cv) kv s ts) (hD.ext (jb _ _).drew)) ?_
     unfold wpMix; simp only [pick, j1, j2, j3, j4]
     (repeat (show wpQuiet _ _ _ _ (_ :: _) _; go_big_quiet_step (fail))); refine qn ?_
     go_wp2_with fail
     have hD1 : TkD w2.heap.size n (.slice Av ts.events.length cv) kv s ts (wr.drew.alloc (.cells #[.string x.key, .int .i64 x.first, .int .i64 x.stamp.wall, .int .i64 x.stamp.logic, .int .i64 x.stamp.node] 70)) := hD.ext (((jb _ wr).drew).al _)
     dsimp only [wpList, SegQ]
     refine ⟨fun w' => ∃ d : Wd (TkD w2.heap.size n (.slice Av ts.events.length cv) kv s ts), w' = d.w, ClsW.mk (D := TkD w2.heap.size n (.slice Av ts.events.length cv) kv s ts) hD1, fun _ h => h, ?_⟩
     unfold wpMix; simp only [pick, j1, j2, j3, j4]
     (repeat (show wpQuiet _ _ _ _ (_ :: _) _; go_big_quiet_step (fail))); refine qn ?_
     obtain ⟨hBx, hTS, hkv, hq⟩ := HH.out
     have hxf : x.fit := (hTS.fit _ (getA_mem HX.out.2)).1
     have hxk : KnownR.rep wr (fun _ => False) x.cells x := known_rep.2 ⟨rfl, hxf⟩
     obtain ⟨e1, e2, e3, e4⟩ := HI1.out
     have hwsz : w5.heap.size ≤ wr.heap.size := hq.size
     have hltv := hkv.lt
     have hkl : ((ks.map fun k => (getA k ts.keys).getD zeroKnown).take i).length ≤ 40000 := by rw [List.length_take, List.length_map]; omega
     have hrx : KnownR.Row (wr.alloc (.cells x.cells.toArray 70)).drew (fun g => g = wr.heap.size) (some ⟨wr.heap.size, 0, none⟩) [x] := ((Rep.Row.new1 (t := 70) hxk).mono (fun g h _ => h.elim False.elim id)).ext (jb _ _).drew
     have hkv' := ((hkv.plain (S' := fun _ => True) known_plain).alloc (.cells x.cells.toArray 70)).ext (jb _ _).drew
     have hszx : (wr.alloc (.cells x.cells.toArray 70)).drew.heap.size = wr.heap.size + 1 := by show (wr.alloc _).heap.size = _; simp
     refine wpList_append_rep (R := KnownR) (wr.alloc (.cells x.cells.toArray 70)).drew rfl (.tmp 44) (.tmp 51) _ rfl w5.heap.size 70 i1 _ 48 Tryz.underlying59 e1 e2 e3 e4 rfl kv _ (fun _ => True) rfl hkv' _ (some ⟨wr.heap.size, 0, none⟩) 1 [x] rfl hrx (fun g hg hl => ⟨trivial, fun h => by have := (hltv g h.symm).2; omega⟩) (by simp only [List.length_cons, List.length_nil]; unfold maxLen; omega) (by simp only [List.length_cons, List.length_nil]; omega) (by omega) ?_
     intro v1 w6 ho1 hg1 hat1 _ hb1
     obtain ⟨A1, c1, he1, _⟩ := ho1.form
     rw [show ((ks.map fun k => (getA k ts.keys).getD zeroKnown).take i ++ [x]).length = i + 1 from by simp; omega] at he1
     subst he1
     go_simp
     have hD6 : TkD w2.heap.size n (.slice Av ts.events.length cv) kv s ts w6 := hD1.only (Only.grown hg1 (F := fun g => w5.heap.size ≤ g) (fun g hg => (hltv g hg).1)) (by omega) ⟨by have := hlts.b; omega, by have := hlts.km; omega, fun g hg => by have := hlts.ev g hg; omega⟩
     dsimp only [wpList, SegQ]
     refine ⟨fun w' => ∃ d : Wd (TkD w2.heap.size n (.slice Av ts.events.length cv) kv s ts), w' = d.w, ClsW.mk (D := TkD w2.heap.size n (.slice Av ts.events.length cv) kv s ts) hD6, fun _ h => h, ?_⟩
     unfold wpMix; simp only [pick, j1, j2, j3, j4]
     (repeat (show wpQuiet _ _ _ _ (_ :: _) _; go_big_quiet_step (fail))); refine qn ?_
     have y2' : w6.cell? ⟨w2.heap.size, 2, none⟩ = some kv := hD6.x.cell 2
     have f2 : w6.frozen? ⟨w2.heap.size, 2, none⟩ = false := hD6.x.frozen 2
     have hz6 := hb1.size
     have hq6 : Only (fun g => g = w2.heap.size ∨ w5.heap.size ≤ g) w5 w6 := (hq.tr ((Only.of_below ((jb _ wr).al _)).tr (Only.of_below (jb _ _).drew))).trans (Only.grown hg1 (F := fun g => w5.heap.size ≤ g) (fun g hg => (hltv g hg).1)) (fun g _ h => .inr h)
     have hne1 : ∀ g, (Value.slice A1 (i + 1) c1).ownBlock = some g → g ≠ w2.heap.size := fun g hg => by
      have := (ho1.lt g hg).1; omega
     have ho7 : KnownR.Own (w6.setCell ⟨w2.heap.size, 2, none⟩ (.slice A1 (i + 1) c1)) w5.heap.size 70 (fun _ => False) (.slice A1 (i + 1) c1) ((ks.map fun k => (getA k ts.keys).getD zeroKnown).take i ++ [x]) :=
      (ho1.plain (S' := fun _ => False) known_plain).only (F := fun g => g = w2.heap.size) (Only.set_ (F := fun g => g = w2.heap.size) (p := ⟨w2.heap.size, 2, none⟩) rfl _) (fun _ h => h.elim) (fun g hg h => hne1 g hg h)
     have HH2 := jh (ja (hD6.x.set_ 2 (.slice A1 (i + 1) c1)) (ja ho7 (hq6.tr (Only.set_ (p := ⟨w2.heap.size, 2, none⟩) (.inl rfl) (.slice A1 (i + 1) c1)))))
     clear hBx hTS hkv hq hxf hxk e1 e2 e3 e4 hltv hkl hrx hkv' hszx ho1 hg1 hat1 hb1 hD1 hD6 hz6 hq6 hne1 ho7 LK y1 hD
     go_wp2_with fail
     try dsimp only [wpList, SegQ, Exit.then, Exit.inBlock]
     go_at_K
     go_wp2_with fail
     go_round
     case rel =>
      refine ⟨i + 1, _, by omega, by go_num, HH2.out.1, ?_, HH2.out.2.2⟩
      rw [HX.out.1]
      exact HH2.out.2.1
     case measure => simp [intOf]; omega
    ·have hin : i = ks.length := by omega
     subst hin
     rw [List.take_of_length_le (by simp)] at hkv
     obtain ⟨A1, c1, he1, hc1', hc2'⟩ := hkv.form
     rw [List.length_map] at he1 hc1'
     subst he1
     have x0 : wr.cell? ⟨w2.heap.size, 0, none⟩ = some (.string n) := hBx.cell 0
     have x1 : wr.cell? ⟨w2.heap.size, 1, none⟩ = some (.slice Av ts.events.length cv) := hBx.cell 1
     have x2 : wr.cell? ⟨w2.heap.size, 2, none⟩ = some (.slice A1 ks.length c1) := hBx.cell 2
     have hou : StreamR.Own wr w1.heap.size 61 (fun g => w1.heap.size ≤ g) u4 ((takeT T r).take k) := (HO5.out.only hq (fun g hg h => by rcases h with h | h <;> omega) (fun g hg h => by have := (hltu g hg).2; rcases h with h | h <;> omega)).mono (fun g hg _ => hg.1)
     have hoe : EventR.Own wr z0 63 (fun _ => False) (.slice Av ts.events.length cv) ts.events := HOE.out.1.only hq (fun _ h => h.elim) (fun g hg h => by
      have := HOE.out.2 g hg; rcases h with h | h <;> omega)
     have hrs : StreamR.rep wr (fun g => z0 ≤ g) [.string n, .slice Av ts.events.length cv, .slice A1 ks.length c1] (streamOf n ts) := by
      obtain ⟨_, _, he, hca, hcb⟩ := hoe.form
      injection he with _ _ he; subst he
      refine stream_rep.2 ⟨Av, cv, A1, c1, ?_, hsf, hca, hcb, hoe.row' event_plain (fun g hg => (hoe.lt g hg).1), ?_⟩
      ·unfold streamOf; rw [HKS.out, List.length_map]
      ·unfold streamOf; rw [HKS.out, List.length_map]; exact ⟨hc1', hc2', hkv.row' known_plain (fun g hg => by have := (hkv.lt g hg).1; omega)⟩
     obtain ⟨e1, e2, e3, e4⟩ := HI0.out
     have hkl : ((takeT T r).take k).length ≤ 40000 := by rw [List.length_take]; omega
     have HIL := jh hkl
     have hwsz : w1.heap.size ≤ wr.heap.size := by have := hq.size; omega
     have HQQ := jh (ja hq hwr1)
     clear hq hwr1 hBx hTS hkv
     go_wp2_with (at_builtin; refine wpList_append_new (R := StreamR) wr rfl (.tmp 55) (.tmp 57) _ rfl w1.heap.size 61 i0 _ 64 Tryz.underlying41 e1 e2 e3 e4 rfl u4 _ (fun g => w1.heap.size ≤ g) rfl hou (fun _ h => h) rfl (fun g => z0 ≤ g) (streamOf n ts) hrs (fun g hg hl => ⟨by omega, fun h => by have := (hltu g h.symm).2; omega⟩) (by unfold maxLen; omega) (by omega) hwsz ?_; intro v1 w6 ho1 hg1 hat1 hn1 hb1)
     go_round
     case rel =>
      refine ⟨k + 1, by omega, by go_num, by rw [HTK.out]; exact ho1, ?_⟩
      exact (HQQ.out.2.trans (HQQ.out.1.low (fun g hg => by rcases hg with h | h <;> omega) (by omega))).trans hb1
     case measure => simp [intOf]; omega
  ·have hkn : k = ns.length := by omega
   subst hkn
   go_wp2_with fail
   go_ret
   have h1 := HO.out
   rw [List.take_of_length_le (by rw [← HNS.out]; unfold takeT; simp)] at h1
   exact ⟨⟨_, rfl, (h1.mono (fun g hg _ => Nat.le_trans hw1.size hg)).base' hw1.size⟩, hw1.trans (hbl.mono hw1.size)⟩
open Go.RowKit
def likeB (e0 x : Event) : Bool := decide (x.stream = e0.stream) && (decide (x.stamp = e0.stamp) && eventB x)
theorem str_ne {a b : Str} (h : a ≠ b) : (a.toList == b.toList) = false := by
 rw [beq_eq_false_iff_ne]
 intro e
 rw [ByteArray.toList_eq, ByteArray.toList_eq] at e
 exact h (by cases a; cases b; simpa using e)
set_option maxRecDepth 20000 in
set_option maxHeartbeats 3200000 in
theorem alike_any (A : Option Addr) (c : Nat) (l : List Event) (P : Nat → Prop) (w : World) (hr : EventR.Row w P A l) (hl : l.length ≤ 100000000) (hT : Tabs w) (h2 : 2 ≤ w.heap.size) :
 Calls Tryz.prog 273 #[.slice A l.length c] w fun e w' => e = .returned (.bool (alikeB l)) ∧ Below w.heap.size w w' := by
 have HR := jh (hr.mono (Q := fun g => g < w.heap.size) fun g _ h => h); clear hr
 have HL := jh hl; clear hl
 have CE := jh (fun e W => encodeE_any e W)
 unfold Event.val at CE
 have HAL := jh (show ∀ e0, l[0]? = some e0 → alikeB l = l.all (likeB e0) from fun e0 h => by
  cases l with
  | nil => cases h
  | cons x r => simp at h; subst h; rfl)
 go_enter Tryz.func273, Tryz.ntmps273
 go_wp2_with fail
 go_loopw [7] (fun i wr => ∃ k : Nat, k ≤ l.length ∧ i = .int .i64 k ∧ (∀ e0, l[0]? = some e0 → (l.take k).all (likeB e0) = true) ∧ Below w.heap.size w wr) (fun i _ => l.length - (intOf i).toNat)
 case atStart => exact ⟨0, Nat.zero_le _, rfl, fun _ _ => rfl, jb _ _⟩
 case round =>
  obtain ⟨k, hk, rfl, hall, hbl⟩ := hrel
  have HA := jh hall; clear hall
  by_cases hlt : k < l.length
  ·have hlk := List.getElem?_eq_getElem hlt
   have hl0 : l[0]? = some (l[0]'(by omega)) := List.getElem?_eq_getElem (by omega)
   generalize l[k] = x at hlk
   generalize l[0]'(by omega) = e0 at hl0
   obtain ⟨b, o, cs, rfl, hP, hbw, hrep, hcs⟩ := (HR.out.ext hbl).at_ hlk
   obtain ⟨b', o', cs', he, _, _, hrep', hcs'⟩ := (HR.out.ext hbl).at_ hl0
   obtain ⟨rfl, rfl⟩ : b = b' ∧ o = o' := by simpa using he
   obtain ⟨rfl, hf⟩ := event_rep.1 hrep
   obtain ⟨rfl, hf'⟩ := event_rep.1 hrep'
   unfold Event.cells at hcs hcs'
   have c0 := hcs 0 _ rfl; have c1 := hcs 1 _ rfl; have c2 := hcs 2 _ rfl; have c3 := hcs 3 _ rfl; have c4 := hcs 4 _ rfl; have c5 := hcs 5 _ rfl; have c6 := hcs 6 _ rfl; simp only [EventR_size, Nat.add_zero] at c0 c1 c2 c3 c4 c5 c6
   have z0 := hcs' 0 _ rfl
   have z3 := hcs' 3 _ rfl
   have z4 := hcs' 4 _ rfl
   have z5 := hcs' 5 _ rfl
   simp only [EventR_size, Nat.zero_mul, Nat.add_zero] at z0 z3 z4 z5
   have HLK := jh (ja hlk (ja hl0 hf))
   clear hcs hcs' hrep hrep' hlk hl0 he hf hf'
   have hlt' : (k : Int) < l.length := by omega
   have hkm : (k : Int) ≤ 100000000 := by have := HL.out; omega
   have hsz : (wr.alloc (.cells #[.string x.stream, .int .i64 x.version, .string x.data, .int .i64 x.stamp.wall, .int .i64 x.stamp.logic, .int .i64 x.stamp.node, .int .i64 x.index] 63)).heap.size = wr.heap.size + 1 := by simp
   have BX := Blk.new wr 63 [.string x.stream, .int .i64 x.version, .string x.data, .int .i64 x.stamp.wall, .int .i64 x.stamp.logic, .int .i64 x.stamp.node, .int .i64 x.index]
   have hbx := hbl.al (.cells #[.string x.stream, .int .i64 x.version, .string x.data, .int .i64 x.stamp.wall, .int .i64 x.stamp.logic, .int .i64 x.stamp.node, .int .i64 x.index] 63)
   have zz := fun (i : Nat) (v : Value) (h : wr.cell? ⟨b, i, none⟩ = some v) => (Below.cell ((jb _ wr).al (.cells #[.string x.stream, .int .i64 x.version, .string x.data, .int .i64 x.stamp.wall, .int .i64 x.stamp.logic, .int .i64 x.stamp.node, .int .i64 x.index] 63)) (p := ⟨b, i, none⟩) hbw).trans h
   have z0 := zz _ _ z0
   have z3 := zz _ _ z3
   have z4 := zz _ _ z4
   have z5 := zz _ _ z5
   clear zz
   go_upto_region 4 with fail
   refine forget (M := fun W => Code.wp _ _ _ _ W) (fun W => Below w.heap.size w W ∧ Blk W wr.heap.size 63 [.string x.stream, .int .i64 x.version, .string x.data, .int .i64 x.stamp.wall, .int .i64 x.stamp.logic, .int .i64 x.stamp.node, .int .i64 x.index] ∧ W.heap.size = wr.heap.size + 1 ∧
    W.cell? ⟨b, o, none⟩ = some (.string e0.stream) ∧ W.cell? ⟨b, o + 3, none⟩ = some (.int .i64 e0.stamp.wall) ∧ W.cell? ⟨b, o + 4, none⟩ = some (.int .i64 e0.stamp.logic) ∧ W.cell? ⟨b, o + 5, none⟩ = some (.int .i64 e0.stamp.node)) ⟨hbx, BX, hsz, z0, z3, z4, z5⟩ ?_
   clear hbx BX hsz z0 z3 z4 z5 c0 c1 c2 c3 c4 c5 c6
   rintro wx ⟨hbx, BX, hsz, z0, z3, z4, z5⟩
   have x0 := On.cell (BX.cell 0)
   have x1 := On.cell (BX.cell 1)
   have x2 := On.cell (BX.cell 2)
   have x3 := On.cell (BX.cell 3)
   have x4 := On.cell (BX.cell 4)
   have x5 := On.cell (BX.cell 5)
   have x6 := On.cell (BX.cell 6)
   have y0 := On.cell z0
   have y3 := On.cell z3
   have y4 := On.cell z4
   have y5 := On.cell z5
   have hbad : likeB e0 x = false → false = alikeB l := fun h => by
    rw [HAL.out e0 HLK.out.2.1]
    exact (not_all HLK.out.1 h).symm
   have HBAD := jh hbad
   clear hbad z0 z3 z4 z5
   have hcase : x.stream ≠ e0.stream ∨ (x.stream = e0.stream ∧ x.stamp.wall ≠ e0.stamp.wall) ∨ (x.stream = e0.stream ∧ x.stamp.wall = e0.stamp.wall ∧ x.stamp.logic ≠ e0.stamp.logic) ∨ (x.stream = e0.stream ∧ x.stamp.wall = e0.stamp.wall ∧ x.stamp.logic = e0.stamp.logic ∧ x.stamp.node ≠ e0.stamp.node) ∨
    (x.stream = e0.stream ∧ x.stamp.wall = e0.stamp.wall ∧ x.stamp.logic = e0.stamp.logic ∧ x.stamp.node = e0.stamp.node) := by
    by_cases x.stream = e0.stream <;> by_cases x.stamp.wall = e0.stamp.wall <;> by_cases x.stamp.logic = e0.stamp.logic <;> by_cases x.stamp.node = e0.stamp.node <;> simp [*]
   rcases hcase with g | g | g | g | g
   ·have G := jh g
    (have g1 := str_ne g)
    clear g
    refine wp_region_mix (.seg [0, 1, 2, 3, 4, 5, 6, 7, 8, 9, 10, 11, 12, 13, 14, 15, 16, 17] 18 (.leaf [19, 20, 21])) (fun w' => ∃ d : Wd (On wx), w' = d.w) (by kernel_rfl) (by kernel_rfl) (fun _ _ d _ _ h => by cases d <;> exact h) (ClsW.mk (jb _ _).drew) ?_
    unfold wpMix; simp only [pick, j1, j2, j3, j4]
    (repeat (show wpQuiet _ _ _ _ (_ :: _) _; go_big_quiet_step (fail))); refine qn ?_
    go_wp2_with fail
    dsimp only [wpList, SegQ]
    refine ⟨fun w' => ∃ d : Wd (On wx), w' = d.w, ClsW.mk (jb _ _).drew, fun _ h => h, ?_⟩
    unfold wpMix; simp only [pick, j1, j2, j3, j4]
    (repeat (show wpQuiet _ _ _ _ (_ :: _) _; go_big_quiet_step (fail))); refine qn ?_
    go_wp2_with fail
    go_ret
    exact ⟨ret_bool (HBAD.out (by (simp [likeB, G.out]))), hbx.drew⟩
   ·have G := jh g
    (rw [g.1] at x0) ; (have g1 : (x.stamp.wall == e0.stamp.wall) = false := by rw [beq_eq_false_iff_ne] ; exact g.2)
    clear g
    refine wp_region_mix (.seg [0, 1, 2, 3, 4, 5, 6, 7, 8, 9, 10, 11, 12, 13, 14, 15, 16, 17] 18 (.leaf [19, 20, 21])) (fun w' => ∃ d : Wd (On wx), w' = d.w) (by kernel_rfl) (by kernel_rfl) (fun _ _ d _ _ h => by cases d <;> exact h) (ClsW.mk (jb _ _).drew) ?_
    unfold wpMix; simp only [pick, j1, j2, j3, j4]
    (repeat (show wpQuiet _ _ _ _ (_ :: _) _; go_big_quiet_step (fail))); refine qn ?_
    go_wp2_with fail
    dsimp only [wpList, SegQ]
    refine ⟨fun w' => ∃ d : Wd (On wx), w' = d.w, ClsW.mk (jb _ _).drew, fun _ h => h, ?_⟩
    unfold wpMix; simp only [pick, j1, j2, j3, j4]
    (repeat (show wpQuiet _ _ _ _ (_ :: _) _; go_big_quiet_step (fail))); refine qn ?_
    go_wp2_with fail
    go_ret
    exact ⟨ret_bool (HBAD.out (by (have h : x.stamp ≠ e0.stamp := fun e => G.out.2 (by rw [e])) ; (simp [likeB, h]))), hbx.drew⟩
   ·have G := jh g
    (rw [g.1] at x0) ; (rw [g.2.1] at x3) ; (have g1 : (x.stamp.logic == e0.stamp.logic) = false := by rw [beq_eq_false_iff_ne] ; exact g.2.2)
    clear g
    refine wp_region_mix (.seg [0, 1, 2, 3, 4, 5, 6, 7, 8, 9, 10, 11, 12, 13, 14, 15, 16, 17] 18 (.leaf [19, 20, 21])) (fun w' => ∃ d : Wd (On wx), w' = d.w) (by kernel_rfl) (by kernel_rfl) (fun _ _ d _ _ h => by cases d <;> exact h) (ClsW.mk (jb _ _).drew) ?_
    unfold wpMix; simp only [pick, j1, j2, j3, j4]
    (repeat (show wpQuiet _ _ _ _ (_ :: _) _; go_big_quiet_step (fail))); refine qn ?_
    go_wp2_with fail
    dsimp only [wpList, SegQ]
    refine ⟨fun w' => ∃ d : Wd (On wx), w' = d.w, ClsW.mk (jb _ _).drew, fun _ h => h, ?_⟩
    unfold wpMix; simp only [pick, j1, j2, j3, j4]
    (repeat (show wpQuiet _ _ _ _ (_ :: _) _; go_big_quiet_step (fail))); refine qn ?_
    go_wp2_with fail
    go_ret
    exact ⟨ret_bool (HBAD.out (by (have h : x.stamp ≠ e0.stamp := fun e => G.out.2.2 (by rw [e])) ; (simp [likeB, h]))), hbx.drew⟩
   ·have G := jh g
    (rw [g.1] at x0) ; (rw [g.2.1] at x3) ; (rw [g.2.2.1] at x4) ; (have g1 : (x.stamp.node == e0.stamp.node) = false := by rw [beq_eq_false_iff_ne] ; exact g.2.2.2)
    clear g
    refine wp_region_mix (.seg [0, 1, 2, 3, 4, 5, 6, 7, 8, 9, 10, 11, 12, 13, 14, 15, 16, 17] 18 (.leaf [19, 20, 21])) (fun w' => ∃ d : Wd (On wx), w' = d.w) (by kernel_rfl) (by kernel_rfl) (fun _ _ d _ _ h => by cases d <;> exact h) (ClsW.mk (jb _ _).drew) ?_
    unfold wpMix; simp only [pick, j1, j2, j3, j4]
    (repeat (show wpQuiet _ _ _ _ (_ :: _) _; go_big_quiet_step (fail))); refine qn ?_
    go_wp2_with fail
    dsimp only [wpList, SegQ]
    refine ⟨fun w' => ∃ d : Wd (On wx), w' = d.w, ClsW.mk (jb _ _).drew, fun _ h => h, ?_⟩
    unfold wpMix; simp only [pick, j1, j2, j3, j4]
    (repeat (show wpQuiet _ _ _ _ (_ :: _) _; go_big_quiet_step (fail))); refine qn ?_
    go_wp2_with fail
    go_ret
    exact ⟨ret_bool (HBAD.out (by (have h : x.stamp ≠ e0.stamp := fun e => G.out.2.2.2 (by rw [e])) ; (simp [likeB, h]))), hbx.drew⟩
   ·have G := jh g
    rw [g.1] at x0
    rw [g.2.1] at x3
    rw [g.2.2.1] at x4
    rw [g.2.2.2] at x5
    clear g
    refine wp_region_mix (.seg [0, 1, 2, 3, 4, 5, 6, 7, 8, 9, 10, 11, 12, 13, 14, 15, 16, 17] 18 (.leaf [19, 20, 21])) (fun w' => ∃ d : Wd (On wx), w' = d.w) (by kernel_rfl) (by kernel_rfl) (fun _ _ d _ _ h => by cases d <;> exact h) (ClsW.mk (jb _ _).drew) ?_
    unfold wpMix; simp only [pick, j1, j2, j3, j4]
    (repeat (show wpQuiet _ _ _ _ (_ :: _) _; go_big_quiet_step (fail))); refine qn ?_
    go_wp2_with fail
    have HXE := jh (show (⟨e0.stream, x.version, x.data, ⟨e0.stamp.wall, e0.stamp.logic, e0.stamp.node⟩, x.index⟩ : Event) = x from by
     obtain ⟨x1, x2, x3, ⟨x4, x5, x6⟩, x7⟩ := x
     have := G.out
     simp only at this
     obtain ⟨h1, h2, h3, h4⟩ := this
     rw [h1, h2, h3, h4])
    have hzx := hbx.size
    have C := CE.out ⟨e0.stream, x.version, x.data, ⟨e0.stamp.wall, e0.stamp.logic, e0.stamp.node⟩, x.index⟩ wx.drew (by rw [HXE.out]; exact HLK.out.2.2) (hT.below hbx.drew) (by show 2 ≤ wx.heap.size; omega)
    rw [show eventB (⟨e0.stream, x.version, x.data, ⟨e0.stamp.wall, e0.stamp.logic, e0.stamp.node⟩, x.index⟩ : Event) = eventB x from by rw [HXE.out]] at C
    clear x0 x1 x2 x3 x4 x5 x6 y0 y3 y4 y5
    cases hq : eventB x
    ·have HQ := jh hq
     rw [hq] at C
     clear hq
     refine C.mono ?_
     clear C
     rintro en w2 ⟨hg2, hb2⟩
     obtain rfl := hg2.out0
     go_wp2_with fail
     dsimp only [wpList, SegQ]
     refine ⟨fun w' => ∃ d : Wd (On wx), w' = d.w, ClsW.mk ((jb wx.heap.size wx).drew.trans hb2), fun _ h => h, ?_⟩
     unfold wpMix; simp only [pick, j1, j2, j3, j4]
     (repeat (show wpQuiet _ _ _ _ (_ :: _) _; go_big_quiet_step (fail))); refine qn ?_
     go_wp2_with fail
     go_ret
     exact ⟨ret_bool (HBAD.out (by simp [likeB, HQ.out])), hbx.drew.trans (hb2.mono hzx)⟩
    ·have HQ := jh hq
     rw [hq] at C
     clear hq
     refine C.mono ?_
     clear C
     rintro en w2 ⟨hg2, hb2⟩
     obtain ⟨v2, n2, rfl, hv2, hn2, _⟩ := hg2.out1
     obtain ⟨A2, c2, rfl, _⟩ := hv2.form
     have hn0 : ((n2 : Int) == 0) = false := by rw [beq_eq_false_iff_ne]; omega
     go_wp2_with fail
     dsimp only [wpList, SegQ]
     refine ⟨fun w' => ∃ d : Wd (On wx), w' = d.w, ClsW.mk ((jb wx.heap.size wx).drew.trans hb2), fun _ h => h, ?_⟩
     unfold wpMix; simp only [pick, j1, j2, j3, j4]
     (repeat (show wpQuiet _ _ _ _ (_ :: _) _; go_big_quiet_step (fail))); refine qn ?_
     go_wp2_with fail
     go_round
     case rel =>
      refine ⟨k + 1, by omega, by go_num, fun e1 h1 => ?_, hbx.drew.trans (hb2.mono hzx)⟩
      have h2 := HLK.out.2.1
      rw [h2] at h1
      obtain rfl : e0 = e1 := by injection h1
      refine all_take_snoc (HA.out e0 h2) HLK.out.1 ?_
      have hst : x.stamp = e0.stamp := by
       have h := congrArg Event.stamp HXE.out
       exact h.symm
      simp [likeB, HQ.out, G.out.1, hst]
     case measure => simp [intOf]; omega
  ·have hkn : k = l.length := by omega
   subst hkn
   have ht : alikeB l = true := by
    cases hl0 : l[0]? with
    | none =>
      have : l = [] := by simpa using hl0
      rw [this]; rfl
    | some e0 =>
      rw [HAL.out e0 hl0]
      have := HA.out e0 hl0
      rwa [List.take_length] at this
   have HTT := jh ht
   clear ht
   go_wp2_with fail
   go_ret
   exact ⟨by rw [HTT.out]; rfl, hbl⟩
open Go.RowKit
section
variable {κ β : Type} [DecidableEq κ]
theorem putA_same {k : κ} {v : β} {l : List (κ × β)} (h : getA k l = some v) : putA k v l = l := by
 induction l with
 | nil => cases h
 | cons p l ih =>
   obtain ⟨x, u⟩ := p
   simp only [getA] at h
   simp only [putA]
   split at h
   ·rename_i e; cases h; rw [if_pos e]
   ·rename_i e; rw [if_neg e, ih h]
theorem putA_put (k : κ) (v u : β) (l : List (κ × β)) : putA k v (putA k u l) = putA k v l := by
 induction l with
 | nil => simp [putA]
 | cons p l ih =>
   obtain ⟨x, t⟩ := p
   simp only [putA]
   by_cases e : k = x
   ·rw [if_pos e, if_pos e]; simp [putA, e]
   ·rw [if_neg e, if_neg e]; simp only [putA]; rw [if_neg e, ih]
theorem putA_mem' {k : κ} {v : β} {l : List (κ × β)} (hn : (l.map (·.1)).Nodup) {p : κ × β} (h : p ∈ putA k v l) : p = (k, v) ∨ (p ∈ l ∧ p.1 ≠ k) := by
 induction l with
 | nil => simp [putA] at h; exact .inl h
 | cons q l ih =>
   simp only [List.map_cons, List.nodup_cons] at hn
   obtain ⟨x, t⟩ := q
   simp only [putA] at h
   split at h
   ·rename_i e
    rcases List.mem_cons.1 h with h | h
    ·left; rw [h, e]
    ·refine .inr ⟨List.mem_cons_of_mem _ h, fun e' => hn.1 ?_⟩
     simp only
     rw [← e, ← e']; exact List.mem_map.2 ⟨p, h, rfl⟩
   ·rename_i e
    rcases List.mem_cons.1 h with h | h
    ·subst h; exact .inr ⟨by simp, fun e' => e e'.symm⟩
    ·rcases ih hn.2 h with h | h
     ·exact .inl h
     ·exact .inr ⟨List.mem_cons_of_mem _ h.1, h.2⟩
theorem putA_pair {R : κ × β → κ × β → Prop} {k : κ} {v : β} {l : List (κ × β)} (hn : (l.map (·.1)).Nodup) (h : l.Pairwise R) (hk : ∀ q ∈ l, q.1 ≠ k → R q (k, v) ∧ R (k, v) q) : (putA k v l).Pairwise R := by
 induction l with
 | nil => simp [putA]
 | cons q l ih =>
   have hn' := hn
   simp only [List.map_cons, List.nodup_cons] at hn
   rw [List.pairwise_cons] at h
   obtain ⟨x, t⟩ := q
   simp only [putA]
   split
   ·rename_i e
    rw [List.pairwise_cons]
    refine ⟨fun p hp => ?_, h.2⟩
    have : p.1 ≠ k := fun e' => hn.1 (by simp only; rw [← e, ← e']; exact List.mem_map.2 ⟨p, hp, rfl⟩)
    rw [← e]
    exact (hk p (List.mem_cons_of_mem _ hp) this).2
   ·rename_i e
    rw [List.pairwise_cons]
    refine ⟨fun p hp => ?_, ih hn.2 h.2 fun q hq => hk q (List.mem_cons_of_mem _ hq)⟩
    rcases putA_mem' hn.2 hp with rfl | hp
    ·exact (hk (x, t) (by simp) (fun e' => e e'.symm)).1
    ·exact h.1 p hp.1
end
theorem StrsAt.upd {w w' : World} {P P' : Nat → Prop} {m : Nat} {TA : TabA} {n : Str} {ts : TS} {s : SB} (h : StrsAt w P m TA) (hM : MapAt strE w' m (TabA.ptrs (putA n (ts, s) TA))) (ht : TSAt w' s ts) (hm : s.km ≠ m) (hi : s.In P') (hn : sfit n) (hP : ∀ g, P g → P' g)
 (ho : ∀ q ∈ TA, q.1 ≠ n → TSAt w' q.2.2 q.2.1 ∧ q.2.2.Apart s) : StrsAt w' P' m (putA n (ts, s) TA) := by
 refine ⟨hM, putA_nodup h.nd, fun p hp => ?_, putA_pair h.nd h.apart fun q hq hne => ⟨(ho q hq hne).2, (ho q hq hne).2.symm⟩⟩
 rcases putA_mem' h.nd hp with rfl | ⟨hp, hne⟩
 ·exact ⟨ht, hm, hi, hn⟩
 ·exact ⟨(ho p hp hne).1, (h.each p hp).2.1, (h.each p hp).2.2.1.mono hP, (h.each p hp).2.2.2⟩
def SB.Foot (s : SB) (B : Nat) (g : Nat) : Prop := g = s.b ∨ g = s.km ∨ s.ev.ownBlock = some g ∨ B ≤ g
theorem TSAt.not_map {w : World} {s : SB} {ts : TS} (h : TSAt w s ts) {m : Nat} {ps : List (Str × Value)} (hM : MapAt strE w m ps) : m ≠ s.b ∧ s.ev.ownBlock ≠ some m := by
 refine ⟨hM.not_cells h.blk, fun e => ?_⟩
 obtain ⟨xs, h1, _⟩ := h.ev
 rcases h1.2 with ⟨hv, _⟩ | ⟨g, cap, cur, hv, _, hg, _⟩
 ·rw [hv] at e; cases e
 ·rw [hv] at e
  have : g = m := by simpa [Value.ownBlock] using e
  subst this
  obtain ⟨es, clk, hh, _⟩ := hM
  rw [hh] at hg; cases hg
theorem StrsAt.other {w w' : World} {P : Nat → Prop} {m : Nat} {TA : TabA} {n : Str} {ts : TS} {s : SB} (h : StrsAt w P m TA) (hg : getA n TA = some (ts, s)) (hb : Only (s.Foot w.heap.size) w w') :
 ∀ q ∈ TA, q.1 ≠ n → TSAt w' q.2.2 q.2.1 ∧ q.2.2.Apart s := fun q hq hne => by
 have hm := getA_mem hg
 have hs := (h.each _ hm).1
 have hqs := (h.each _ hq).1
 have hap : q.2.2.Apart s := by
  obtain ⟨i, hi, rfl⟩ := List.getElem_of_mem hq
  obtain ⟨j, hj, e⟩ := List.getElem_of_mem hm
  have hp := List.pairwise_iff_getElem.1 h.apart
  rcases Nat.lt_trichotomy i j with h1 | h1 | h1
  ·have := hp i j hi hj h1; rw [e] at this; exact this
  ·subst h1; rw [e] at hne; exact absurd rfl hne
  ·have := hp j i hj hi h1; rw [e] at this; exact this.symm
 refine ⟨hqs.same (P := fun g => ¬ s.Foot w.heap.size g) ⟨?_, ?_, ?_⟩ (Same.of_only hb fun _ h => h), hap⟩
 ·rintro (e | e | e | e)
  ·exact hap.b e
  ·exact (hqs.not_map hs.km).1 e.symm
  ·obtain ⟨xs, h1, _⟩ := hs.ev
   have := own_blk_ne h1 hqs.blk (by decide)
   exact this e
  ·have := hqs.blk.lt; omega
 ·rintro (e | e | e | e)
  ·exact (hs.not_map hqs.km).1 e
  ·exact hap.km e
  ·exact (hs.not_map hqs.km).2 e
  ·have := hqs.km.lt; omega
 ·rintro g hg (e | e | e | e)
  ·obtain ⟨xs, h1, _⟩ := hqs.ev
   exact own_blk_ne h1 hs.blk (by decide) (e ▸ hg)
  ·exact (hqs.not_map hs.km).2 (e ▸ hg)
  ·exact hap.ev g hg e
  ·have := (hqs.ev.lt g hg).2; omega
theorem StrsAt.foot_m {w : World} {P : Nat → Prop} {m : Nat} {TA : TabA} {n : Str} {ts : TS} {s : SB} (h : StrsAt w P m TA) (hg : getA n TA = some (ts, s)) : ¬ s.Foot w.heap.size m := by
 have hs := h.each _ (getA_mem hg)
 rintro (e | e | e | e)
 ·exact (hs.1.not_map h.map).1 e
 ·exact hs.2.1 e.symm
 ·exact (hs.1.not_map h.map).2 e
 ·have := h.map.lt; omega
theorem StrsAt.turn {w w' : World} {P P' : Nat → Prop} {m : Nat} {TA : TabA} {n : Str} {ts ts' : TS} {s s' : SB} (h : StrsAt w P m TA) (hg : getA n TA = some (ts, s)) (hb : Only (s.Foot w.heap.size) w w') (ht : TSAt w' s' ts') (e1 : s'.b = s.b) (e2 : s'.km = s.km)
 (e3 : ∀ g, s'.ev.ownBlock = some g → s.ev.ownBlock = some g ∨ w.heap.size ≤ g) (hP : ∀ g, P g → P' g) (hN : ∀ g, w.heap.size ≤ g → P' g) : StrsAt w' P' m (putA n (ts', s') TA) := by
 have hs := h.each _ (getA_mem hg)
 refine h.upd ?_ ht (by rw [e2]; exact hs.2.1) ⟨by rw [e1]; exact hP _ hs.2.2.1.b, by rw [e2]; exact hP _ hs.2.2.1.km, fun g hg' => ?_⟩ hs.2.2.2 hP fun q hq hne => ?_
 ·have : TabA.ptrs (putA n (ts', s') TA) = TA.ptrs := by
   unfold TabA.ptrs
   rw [← putA_map (fun q : TS × SB => ptrV q.2.b)]
   refine putA_same ?_
   have := ptrs_get TA n
   unfold TabA.ptrs at this
   rw [this, hg]; simp [e1]
  rw [this]
  exact h.map.only hb (h.foot_m hg)
 ·rcases e3 g hg' with h1 | h1
  ·exact hP _ (hs.2.2.1.ev g h1)
  ·exact hN _ h1
 ·obtain ⟨k1, k2⟩ := h.other hg hb q hq hne
  refine ⟨k1, ⟨by rw [e1]; exact k2.b, by rw [e2]; exact k2.km, fun g hg' hn => ?_⟩⟩
  rcases e3 g hn with h1 | h1
  ·exact k2.ev g hg' h1
  ·have := ((h.each q hq).1.ev.lt g hg').2; omega
theorem StrsAt.more {w w' : World} {P P' : Nat → Prop} {m : Nat} {TA : TabA} {n : Str} {ts : TS} {s : SB} (h : StrsAt w P m TA) (hb : Only (fun g => g = m ∨ w.heap.size ≤ g) w w') (hM : MapAt strE w' m (putA n (ptrV s.b) TA.ptrs)) (ht : TSAt w' s ts) (hs : w.heap.size ≤ s.b ∧ w.heap.size ≤ s.km ∧ ∀ g, s.ev.ownBlock = some g → w.heap.size ≤ g)
 (hn : sfit n) (hP : ∀ g, P g → P' g) (hN : ∀ g, w.heap.size ≤ g → P' g) : StrsAt w' P' m (putA n (ts, s) TA) := by
 have hml := h.map.lt
 refine h.upd ?_ ht (by omega) ⟨hN _ hs.1, hN _ hs.2.1, fun g hg => hN _ (hs.2.2 g hg)⟩ hn hP fun q hq hne => ?_
 ·have : TabA.ptrs (putA n (ts, s) TA) = putA n (ptrV s.b) TA.ptrs := by
   unfold TabA.ptrs
   rw [← putA_map (fun q : TS × SB => ptrV q.2.b)]
  rw [this]; exact hM
 ·have hq' := h.each q hq
  have hl := hq'.1.inlt
  refine ⟨hq'.1.same (P := fun g => g ≠ m ∧ g < w.heap.size) ⟨⟨fun e => (hq'.1.not_map h.map).1 e.symm, hl.b⟩, ⟨hq'.2.1, hl.km⟩, fun g hg => ⟨fun e => (hq'.1.not_map h.map).2 (e ▸ hg), hl.ev g hg⟩⟩ (Same.of_only hb fun g hg h => by rcases h with h | h <;> omega), ⟨?_, ?_, ?_⟩⟩
  ·have := hl.b; omega
  ·have := hl.km; omega
  ·intro g hg hn
   have := hl.ev g hg; have := hs.2.2 g hn; omega
open Go.RowKit
def AppendOut (w : World) (P : Nat → Prop) (tb : Nat) (T : Tab) (k : Str) (l : List Event) (e : Ending) (w' : World) : Prop :=
 e = .returned (.int .i64 (appendT k l T).2) ∧ TabAt w' (fun g => P g ∨ w.heap.size ≤ g) tb (appendT k l T).1 ∧ Only P w w'
theorem appendT_1 {k : Str} {l : List Event} {T : Tab} (h : l = [] ∨ alikeB l = false ∨ keyB k = false) : appendT k l T = (T, 1) := by
 cases l with
 | nil => rfl
 | cons e l =>
   unfold appendT
   rcases h with h | h | h
   ·cases h
   ·simp only; rw [if_pos (.inl h)]
   ·simp only; rw [if_pos (.inr h)]
theorem appendT_5 {k : Str} {l : List Event} {e0 : Event} {T : Tab} (h0 : l[0]? = some e0) (h1 : alikeB l = true) (h2 : keyB k = true) (h3 : goesB l (versionT T e0.stream) = false) : appendT k l T = (T, 5) := by
 cases l with
 | nil => cases h0
 | cons e l =>
   simp at h0; subst h0
   unfold appendT
   simp only
   rw [if_neg (by simp [h1, h2]), if_pos h3]
theorem appendT_0 {k : Str} {l : List Event} {e0 : Event} {T : Tab} (h0 : l[0]? = some e0) (h1 : alikeB l = true) (h2 : keyB k = true) (h3 : goesB l (versionT T e0.stream) = true) :
 appendT k l T = (putA e0.stream ⟨((getA e0.stream T).getD ⟨[], []⟩).events ++ l, addKey k e0 ((getA e0.stream T).getD ⟨[], []⟩).keys⟩ T, 0) := by
 cases l with
 | nil => cases h0
 | cons e l =>
   simp at h0; subst h0
   unfold appendT
   simp only
   rw [if_neg (by simp [h1, h2]), if_neg (by simp [h3])]
theorem AppendOut.same {w w' : World} {P : Nat → Prop} {tb : Nat} {T : Tab} {k : Str} {l : List Event} {n : Int} (h : TabAt w P tb T) (hb : Below w.heap.size w w') (he : appendT k l T = (T, n)) : AppendOut w P tb T k l (.returned (.int .i64 n)) w' := by
 unfold AppendOut
 rw [he]
 exact ⟨rfl, (h.ext hb).mono fun g hg => .inl hg, Only.of_below hb⟩
set_option maxRecDepth 20000 in
set_option maxHeartbeats 3200000 in
theorem append_no (tb : Nat) (T : Tab) (k : Str) (A : Option Addr) (c : Nat) (l : List Event) (P Q : Nat → Prop) (w : World) (h : TabAt w P tb T) (hr : EventR.Row w Q A l) (hl : l.length ≤ 40000) (hk : sfit k) (hev : ∀ n, versionT T n ≤ 40000) (hT : Tabs w) (h2 : 2 ≤ w.heap.size)
 (hno : (appendT k l T).2 ≠ 0) : Calls Tryz.prog 227 #[ptrV tb, .string k, .slice A l.length c] w (AppendOut w P tb T k l) := by
 have CA := alike_any A c l Q w hr (by omega) hT h2
 have HT := jh h
 have HR := jh hr
 have CK := fun W (hb : Below w.heap.size w W) => keyF k W hk (hT.below hb)
 have HEV := jh hev
 have HNO := jh hno
 clear h hr hev hk hno
 unfold ptrV
 by_cases hl0 : l.length = 0
 ·have HL0 := jh hl0
  go_enter Tryz.func227, Tryz.ntmps227
  go_wp2_with fail
  go_ret
  exact AppendOut.same HT.out (jb _ _) (appendT_1 (.inl (List.eq_nil_of_length_eq_zero HL0.out)))
 have hl0' : ((l.length : Int) == 0) = false := by rw [beq_eq_false_iff_ne]; omega
 have hll : (0 : Int) < l.length := by omega
 have hl00 : l[0]? = some (l[0]'(by omega)) := List.getElem?_eq_getElem (by omega)
 generalize l[0]'(by omega) = e0 at hl00
 have HL0 := jh hl00
 clear hl0 hl00
 cases hq : alikeB l
 ·have HQ := jh hq
  rw [hq] at CA
  clear hq
  go_enter Tryz.func227, Tryz.ntmps227
  go_wp2_with fail
  refine CA.mono ?_
  clear CA
  rintro e w1 ⟨rfl, hb1⟩
  go_wp2_with fail
  go_ret
  exact AppendOut.same HT.out hb1 (appendT_1 (.inr (.inl HQ.out)))
 have HQ := jh hq
 rw [hq] at CA
 clear hq
 cases hq : keyB k
 ·have HK := jh hq
  rw [hq] at CK
  clear hq
  go_enter Tryz.func227, Tryz.ntmps227
  go_wp2_with fail
  refine CA.mono ?_
  clear CA
  rintro e w1 ⟨rfl, hb1⟩
  go_wp2_with fail
  refine (CK w1 hb1).mono ?_
  clear CK
  rintro e w2 ⟨rfl, hb2⟩
  go_wp2_with fail
  go_ret
  exact AppendOut.same HT.out (hb1.tr hb2) (appendT_1 (.inr (.inr HK.out)))
 have HK := jh hq
 rw [hq] at CK
 clear hq
 cases hq : goesB l (versionT T e0.stream)
 ·have HG := jh hq
  clear hq
  have hv0 : 0 ≤ versionT T e0.stream := by unfold versionT; split <;> omega
  have hvv := HEV.out e0.stream
  have CV := fun W (hb : Below w.heap.size w W) => version_any tb T e0.stream P W (HT.out.ext hb)
  have CG := fun W (hb : Below w.heap.size w W) => goes_any A c l (versionT T e0.stream) Q W (HR.out.ext hb) (by omega) (by omega)
  rw [HG.out] at CG
  unfold ptrV at CV
  go_enter Tryz.func227, Tryz.ntmps227
  go_wp2_with fail
  refine CA.mono ?_
  clear CA
  rintro e w1 ⟨rfl, hb1⟩
  go_wp2_with fail
  refine (CK w1 hb1).mono ?_
  clear CK
  rintro e w2 ⟨rfl, hb2⟩
  obtain ⟨b, o, cs, rfl, hP, hbw, hrep, hcs⟩ := (HR.out.ext (hb1.tr hb2)).at_ HL0.out
  obtain ⟨rfl, hf⟩ := event_rep.1 hrep
  have c0 := hcs 0 _ rfl
  simp only [EventR_size, Nat.zero_mul, Nat.add_zero] at c0
  clear hcs hrep hf
  go_wp2_with fail
  refine (CV w2 (hb1.tr hb2)).mono ?_
  clear CV
  rintro e w2' ⟨rfl, rfl⟩
  go_wp2_with fail
  refine (CG w2 (hb1.tr hb2)).mono ?_
  clear CG
  rintro e w3 ⟨rfl, hb3⟩
  go_wp2_with fail
  go_ret
  exact AppendOut.same HT.out ((hb1.tr hb2).tr hb3) (appendT_5 HL0.out HQ.out HK.out HG.out)
 ·exact absurd (by rw [appendT_0 HL0.out HQ.out HK.out hq]) HNO.out
end Go.Proofs.YtpgocpodhamibaaGreatDoor
