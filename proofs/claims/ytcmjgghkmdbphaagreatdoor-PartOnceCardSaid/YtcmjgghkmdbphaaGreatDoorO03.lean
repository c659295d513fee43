/- Words for maps: a map's entries, told one behind the other. The library's DeleteFunc and Equal over texts. A region that draws its order, walked in one order: heads that yield the same in every world of a class, tails one behind the other. -/
import Derived.Test.YtcmjgghkmdbphaaGreatDoorO01
import Derived.MapKept
import Derived.Maps.OwnSet
import Derived.Test.YtcmjgghkmdbphaaGreatDoorO02
import Derived.Lib.SliceRun
set_option maxRecDepth 20000
set_option maxHeartbeats 25600000
namespace Go.Proofs.YtcmjgghkmdbphaaGreatDoor
open Go.RowKit
def assocOf {κ : Type} [DecidableEq κ] (k : κ) : List (κ × Value) → Option Value
 | [] => none
 | (x, v) :: l => if k = x then some v else assocOf k l
def assocAt {κ : Type} [DecidableEq κ] (k : κ) : List (κ × Value) → Nat → Option (Nat × Value)
 | [], _ => none
 | (x, v) :: l, i => if k = x then some (i, v) else assocAt k l (i + 1)
def assocPut {κ : Type} [DecidableEq κ] (k : κ) (v : Value) : List (κ × Value) → List (κ × Value)
 | [] => [(k, v)]
 | (x, u) :: l => if k = x then (x, v) :: l else (x, u) :: assocPut k v l
def assocDel {κ : Type} [DecidableEq κ] (k : κ) : List (κ × Value) → List (κ × Value)
 | [] => []
 | (x, u) :: l => if k = x then l else (x, u) :: assocDel k l
structure KeyOk {κ : Type} [DecidableEq κ] (P : Program) (kt : TypeId) (enc : κ → Value) : Prop where
 check : ∀ (b : Bool) (k : κ) (w : World), (Instr.checkKey b 10000 kt (enc k)).run P w = .ok () w
 find : ∀ (k : κ) (es : List MapEntry) (ps : List (κ × Value)) (w : World), es.map (fun e => (e.key, e.val)) = ps.map (fun p => (enc p.1, p.2)) → (Instr.findKey kt (enc k) es).run P w = .ok (assocAt k ps 0) w
 stays : ∀ (k : κ) (w : World), (Instr.keyThatStays (enc k) (enc k)).run P w = .ok (enc k) w
theorem beq_str (a b : ByteArray) : (a == b) = decide (a = b) := by
 obtain ⟨⟨x⟩⟩ := a
 obtain ⟨⟨y⟩⟩ := b
 show ((⟨x⟩ : Array UInt8) == ⟨y⟩) = _
 rw [Bool.eq_iff_iff]; simp
theorem map_erase {α β : Type} (f : α → β) (l : List α) (i : Nat) : (l.eraseIdx i).map f = (l.map f).eraseIdx i := by
 induction l generalizing i with
 | nil => rfl
 | cons x l ih => cases i with
   | zero => rfl
   | succ i => simp [ih]
theorem str_key {P : Program} {kt : TypeId} (h : P.underlying kt = some .string) : KeyOk P kt (fun s : ByteArray => Value.string s) where
 check b k w := by rw [Instr.checkKey]; simp [run_underlying h]
 find k es ps w he := by
  have key : ∀ (es : List MapEntry) (ps : List (ByteArray × Value)) (i : Nat), es.map (fun e => (e.key, e.val)) = ps.map (fun p => (Value.string p.1, p.2)) → Instr.findNow .string (.string k) es i = some (assocAt k ps i) := by
   intro es
   induction es with
   | nil => intro ps i h; cases ps with
     | nil => rfl
     | cons p ps => simp at h
   | cons e es ih => intro ps i h; cases ps with
     | nil => simp at h
     | cons p ps =>
       simp only [List.map_cons, List.cons.injEq, Prod.mk.injEq] at h
       obtain ⟨⟨h1, h2⟩, h3⟩ := h
       simp only [Instr.findNow, h1, Instr.sameNow, assocAt, beq_str]
       by_cases hk : k = p.1
       ·simp [hk, h2]
       ·simp [hk, ih ps (i + 1) h3]
  simp [Instr.findKey, run_underlying h, key es ps 0 he]
 stays k w := by simp [Instr.keyThatStays, Instr.sameBits, beq_str]
theorem assocAt_none {κ : Type} [DecidableEq κ] (k : κ) (l : List (κ × Value)) (i : Nat) : assocAt k l i = none ↔ assocOf k l = none := by
 induction l generalizing i with
 | nil => simp [assocAt, assocOf]
 | cons p l ih => simp only [assocAt, assocOf]; split <;> simp [ih]
theorem assocAt_some {κ : Type} [DecidableEq κ] {k : κ} {l : List (κ × Value)} {i j : Nat} {v : Value} (h : assocAt k l i = some (j, v)) : assocOf k l = some v ∧ i ≤ j ∧ l[j - i]? = some (k, v) := by
 induction l generalizing i with
 | nil => simp [assocAt] at h
 | cons p l ih =>
   simp only [assocAt] at h
   simp only [assocOf]
   split at h
   ·rename_i hk; rw [if_pos hk]; simp at h; obtain ⟨rfl, rfl⟩ := h; subst hk; simp
   ·rename_i hk
    rw [if_neg hk]
    obtain ⟨h1, h2, h3⟩ := ih h
    refine ⟨h1, by omega, ?_⟩
    rw [show j - i = (j - (i + 1)) + 1 from by omega, List.getElem?_cons_succ]; exact h3
theorem assocPut_at {κ : Type} [DecidableEq κ] {k : κ} {l : List (κ × Value)} {i j : Nat} {v u : Value} (h : assocAt k l i = some (j, u)) : assocPut k v l = l.set (j - i) (k, v) := by
 induction l generalizing i with
 | nil => simp [assocAt] at h
 | cons p l ih =>
   simp only [assocAt] at h
   simp only [assocPut]
   split at h
   ·rename_i hk; rw [if_pos hk]; simp at h; obtain ⟨rfl, rfl⟩ := h; subst hk; simp
   ·rename_i hk
    rw [if_neg hk]
    have h2 := (assocAt_some h).2.1
    rw [show j - i = (j - (i + 1)) + 1 from by omega, List.set_cons_succ, ih h]
theorem assocPut_new {κ : Type} [DecidableEq κ] {k : κ} {l : List (κ × Value)} {v : Value} (h : assocOf k l = none) : assocPut k v l = l ++ [(k, v)] := by
 induction l with
 | nil => rfl
 | cons p l ih =>
   simp only [assocOf] at h
   split at h
   ·cases h
   ·rename_i hk; simp [assocPut, hk, ih h]
theorem assocDel_at {κ : Type} [DecidableEq κ] {k : κ} {l : List (κ × Value)} {i j : Nat} {u : Value} (h : assocAt k l i = some (j, u)) : assocDel k l = l.eraseIdx (j - i) := by
 induction l generalizing i with
 | nil => simp [assocAt] at h
 | cons p l ih =>
   simp only [assocAt] at h
   simp only [assocDel]
   split at h
   ·rename_i hk; rw [if_pos hk]; simp at h; obtain ⟨rfl, rfl⟩ := h; simp
   ·rename_i hk
    rw [if_neg hk]
    have h2 := (assocAt_some h).2.1
    rw [show j - i = (j - (i + 1)) + 1 from by omega, List.eraseIdx_cons_succ, ih h]
theorem assocDel_none {κ : Type} [DecidableEq κ] {k : κ} {l : List (κ × Value)} (h : assocOf k l = none) : assocDel k l = l := by
 induction l with
 | nil => rfl
 | cons p l ih =>
   simp only [assocOf] at h
   split at h
   ·cases h
   ·rename_i hk; simp [assocDel, hk, ih h]
section
variable {κ : Type} {P : Program} {kt : TypeId} {enc : κ → Value} {w w' : World} {m : Nat} {ps : List (κ × Value)}
def MapAt (enc : κ → Value) (w : World) (m : Nat) (ps : List (κ × Value)) : Prop :=
 ∃ (es : Array MapEntry) (clk : Nat), w.heap[m]? = some (.map es clk) ∧ es.toList.map (fun e => (e.key, e.val)) = ps.map (fun p => (enc p.1, p.2)) ∧ (es.toList.map (·.born)).Pairwise (· < ·) ∧ ∀ e ∈ es.toList, e.born < clk
theorem MapAt.lt (h : MapAt enc w m ps) : m < w.heap.size := by
 obtain ⟨es, clk, h, _⟩ := h
 exact (Array.getElem?_eq_some_iff.1 h).1
theorem MapAt.block (h : MapAt enc w m ps) (hs : w'.heap[m]? = w.heap[m]?) : MapAt enc w' m ps := by
 obtain ⟨es, clk, h, r⟩ := h
 exact ⟨es, clk, hs.trans h, r⟩
theorem MapAt.ext (h : MapAt enc w m ps) (hb : Below w.heap.size w w') : MapAt enc w' m ps := h.block (hb.block m h.lt)
theorem MapAt.only {F : Nat → Prop} (h : MapAt enc w m ps) (hb : Only F w w') (hn : ¬ F m) : MapAt enc w' m ps := h.block (hb.block m h.lt hn)
theorem MapAt.same {F : Nat → Prop} (h : MapAt enc w m ps) (hb : Same F w w') (hn : F m) : MapAt enc w' m ps := h.block (hb m hn h.lt)
theorem MapAt.drewN (h : MapAt enc w m ps) (n : Nat) : MapAt enc (w.drewN n) m ps := h
theorem MapAt.alloc (h : MapAt enc w m ps) (o : Obj) : MapAt enc (w.alloc o) m ps := h.block (Below.heap_alloc w o m h.lt)
theorem MapAt.new (w : World) : MapAt enc (w.alloc (.map #[] 0)) w.heap.size [] := ⟨#[], 0, heap_alloc_new w _, rfl, by simp, by simp⟩
theorem MapAt.not_cells (h : MapAt enc w m ps) {t : TypeId} {cs : List Value} {g : Nat} (hb : Blk w g t cs) : m ≠ g := by
 rintro rfl
 obtain ⟨es, clk, h, _⟩ := h
 unfold Blk at hb
 rw [h] at hb
 cases hb
theorem MapAt.cells? (h : MapAt enc w m ps) (o : Nat) : w.cell? ⟨m, o, none⟩ = none := by
 obtain ⟨es, clk, h, _⟩ := h
 simp [World.cell?, h]
variable [DecidableEq κ]
theorem run_getMap {es : Array MapEntry} {clk : Nat} (h : w.heap[m]? = some (.map es clk)) : (getObj m).run P w = .ok (.map es clk) w := by
 simp [getObj, Sem.run, h]
theorem run_lookup_map (K : KeyOk P kt enc) {t e : TypeId} (ht : P.underlying t = some (.map kt e)) (h : MapAt enc w m ps) (k : κ) (z : Value) (hz : (zeroValue e).run P w = .ok z w) (c : Bool) :
 (Instr.lookup t (.map (some m)) (enc k) c).run P w = .ok (if c then .tuple #[(assocOf k ps).getD z, .bool (assocOf k ps).isSome] else (assocOf k ps).getD z) w := by
 obtain ⟨es, clk, hh, he, _⟩ := h
 have hf := K.find k es.toList ps w he
 simp only [Instr.lookup, Sem.run_bind, run_underlying ht, Result.andThen_ok, run_getMap hh, Sem.run_pure, K.check, hf]
 cases ha : assocAt k ps 0 with
 | none =>
   have := (assocAt_none k ps 0).1 ha
   simp [hz, this]
 | some q =>
   obtain ⟨j, v⟩ := q
   have := (assocAt_some ha).1
   simp [this]
theorem run_lookup_nil (K : KeyOk P kt enc) {t e : TypeId} (ht : P.underlying t = some (.map kt e)) (k : κ) (z : Value) (hz : (zeroValue e).run P w = .ok z w) (c : Bool) :
 (Instr.lookup t (.map none) (enc k) c).run P w = .ok (if c then .tuple #[z, .bool false] else z) w := by
 have hf := K.find k [] [] w rfl
 simp only [Instr.lookup, Sem.run_bind, run_underlying ht, Result.andThen_ok, Sem.run_pure, K.check, hf, assocAt]
 simp [hz]
def setMap (w : World) (m : Nat) (es : Array MapEntry) (clk : Nat) : World := { w with heap := w.heap.setIfInBounds m (.map es clk) }
theorem setMap_only (w : World) (m : Nat) (es : Array MapEntry) (clk : Nat) : Only (· = m) w (setMap w m es clk) :=
 ⟨rfl, rfl, rfl, by simp [setMap], fun g _ hn => by simp only [setMap, Array.getElem?_setIfInBounds]; rw [if_neg (fun h => hn h.symm)]⟩
theorem setMap_at {es : Array MapEntry} {clk : Nat} (hm : m < w.heap.size) : (setMap w m es clk).heap[m]? = some (.map es clk) := by
 simp [setMap, hm]
theorem run_setMap {es es' : Array MapEntry} {clk clk' : Nat} (h : w.heap[m]? = some (.map es clk)) : (setObj m (.map es' clk')).run P w = .ok () (setMap w m es' clk') := by
 simp [setObj, Sem.run, h, setMap]
theorem pair_len {κ : Type} {enc : κ → Value} {ps : List (κ × Value)} {es : Array MapEntry} (he : es.toList.map (fun e => (e.key, e.val)) = ps.map (fun p => (enc p.1, p.2))) : es.size = ps.length := by
 have := congrArg List.length he
 simpa using this
theorem map_put {es : Array MapEntry} {clk : Nat} (hh : w.heap[m]? = some (.map es clk)) (he : es.toList.map (fun e => (e.key, e.val)) = ps.map (fun p => (enc p.1, p.2))) (hp : (es.toList.map (·.born)).Pairwise (· < ·)) (hc : ∀ e ∈ es.toList, e.born < clk) (k : κ) (v : Value) :
 (∀ j u, assocAt k ps 0 = some (j, u) → MapAt enc (setMap w m (es.modify j fun e => { e with key := enc k, val := v }) clk) m (assocPut k v ps)) ∧
 (assocAt k ps 0 = none → MapAt enc (setMap w m (es.push { key := enc k, val := v, born := clk }) (clk + 1)) m (assocPut k v ps)) := by
 have hm := (Array.getElem?_eq_some_iff.1 hh).1
 refine ⟨fun j u ha => ⟨_, _, setMap_at hm, ?_, ?_, ?_⟩, fun ha => ⟨_, _, setMap_at hm, ?_, ?_, ?_⟩⟩
 ·rw [assocPut_at ha, Nat.sub_zero, List.map_set, ← he]
  apply List.ext_getElem?
  intro i
  simp only [List.getElem?_map, Array.getElem?_toList, Array.getElem?_modify, List.getElem?_set]
  by_cases hij : j = i
  ·subst hij
   have hj : j < es.size := by
    have := (List.getElem?_eq_some_iff.1 (assocAt_some ha).2.2).1
    rw [pair_len he]; simpa using this
   simp [hj]
  ·simp [hij]
 ·have : (es.modify j fun e => { e with key := enc k, val := v }).toList.map (·.born) = es.toList.map (·.born) := by
   apply List.ext_getElem?
   intro i
   simp only [List.getElem?_map, Array.getElem?_toList, Array.getElem?_modify]
   split
   ·cases es[i]? <;> rfl
   ·rfl
  rw [this]; exact hp
 ·intro e hmem
  obtain ⟨i, hi⟩ := List.getElem?_of_mem hmem
  simp only [Array.getElem?_toList, Array.getElem?_modify] at hi
  split at hi
  ·cases hq : es[i]? with
   | none => rw [hq] at hi; cases hi
   | some e0 =>
     rw [hq] at hi
     cases hi
     exact hc e0 (List.mem_of_getElem? (by simpa using hq))
  ·exact hc e (List.mem_of_getElem? (by simpa using hi))
 ·rw [assocPut_new ((assocAt_none k ps 0).1 ha)]
  simp [he]
 ·simp only [Array.toList_push, List.map_append, List.map_cons, List.map_nil]
  rw [List.pairwise_append]
  refine ⟨hp, by simp, ?_⟩
  intro a ha' b hb
  simp at hb
  subst hb
  obtain ⟨e, h1, rfl⟩ := List.mem_map.1 ha'
  exact hc e h1
 ·intro e hmem
  simp only [Array.toList_push, List.mem_append, List.mem_singleton] at hmem
  rcases hmem with h | h
  ·have := hc e h; omega
  ·subst h; simp
theorem run_mapUpdate_map (K : KeyOk P kt enc) {t e : TypeId} (ht : P.underlying t = some (.map kt e)) (h : MapAt enc w m ps) (k : κ) (v : Value) :
 ∃ w', (Instr.mapUpdate t (.map (some m)) (enc k) v).run P w = .ok () w' ∧ MapAt enc w' m (assocPut k v ps) ∧ Only (· = m) w w' := by
 obtain ⟨es, clk, hh, he, hp, hc⟩ := h
 have hf := K.find k es.toList ps w he
 obtain ⟨p1, p2⟩ := map_put hh he hp hc k v
 cases ha : assocAt k ps 0 with
 | none =>
   refine ⟨_, ?_, p2 ha, setMap_only _ _ _ _⟩
   simp only [Instr.mapUpdate, Sem.run_bind, run_underlying ht, Result.andThen_ok, run_getMap hh, K.check, hf, ha]
   exact run_setMap hh
 | some q =>
   obtain ⟨j, u⟩ := q
   refine ⟨_, ?_, p1 j u ha, setMap_only _ _ _ _⟩
   have hj := (assocAt_some ha).2.2
   have hkey : ((es[j]?).map (·.key)).getD (enc k) = enc k := by
    have h1 := congrArg (·[j]?) he
    simp only [List.getElem?_map, Array.getElem?_toList] at h1
    rw [Nat.sub_zero] at hj
    rw [hj] at h1
    cases hq : es[j]? with
    | none => rfl
    | some e0 =>
      rw [hq] at h1
      simp at h1
      simp [h1.1]
   simp only [Instr.mapUpdate, Sem.run_bind, run_underlying ht, Result.andThen_ok, run_getMap hh, K.check, hf, ha, hkey, K.stays]
   exact run_setMap hh
theorem run_delete_map (K : KeyOk P kt enc) {t ty e : TypeId} (ht : P.underlying t = some (.map kt e)) (h : MapAt enc w m ps) (k : κ) :
 ∃ w', (Builtin.delete_ #[t, kt] ty #[.map (some m), enc k]).run P w = .ok (.tuple #[]) w' ∧ MapAt enc w' m (assocDel k ps) ∧ Only (· = m) w w' := by
 obtain ⟨es, clk, hh, he, hp, hc⟩ := h
 have hm := (Array.getElem?_eq_some_iff.1 hh).1
 have hf := K.find k es.toList ps w he
 cases ha : assocAt k ps 0 with
 | none =>
   refine ⟨setMap w m es clk, ?_, ⟨es, clk, setMap_at hm, by rw [assocDel_none ((assocAt_none k ps 0).1 ha)]; exact he, hp, hc⟩, setMap_only _ _ _ _⟩
   simp [Builtin.delete_, run_underlying ht, run_getMap hh, K.check, hf, ha, run_setMap hh]
 | some q =>
   obtain ⟨j, u⟩ := q
   refine ⟨setMap w m (es.eraseIdxIfInBounds j) clk, ?_, ⟨_, clk, setMap_at hm, ?_, ?_, ?_⟩, setMap_only _ _ _ _⟩
   ·simp [Builtin.delete_, run_underlying ht, run_getMap hh, K.check, hf, ha, run_setMap hh]
   ·have hj : j < es.size := by
     have := (List.getElem?_eq_some_iff.1 (assocAt_some ha).2.2).1
     rw [pair_len he]; simpa using this
    rw [assocDel_at ha, Nat.sub_zero, map_erase, ← he]
    simp [Array.eraseIdxIfInBounds, hj, map_erase]
   ·have : (es.eraseIdxIfInBounds j).toList.map (·.born) = (es.toList.map (·.born)).eraseIdx j := by
     rw [← map_erase]
     unfold Array.eraseIdxIfInBounds
     split
     ·simp
     ·rename_i hj
      rw [List.eraseIdx_of_length_le (by simpa using hj)]
    rw [this]
    exact hp.sublist (List.eraseIdx_sublist _ _)
   ·intro e hmem
    unfold Array.eraseIdxIfInBounds at hmem
    split at hmem
    ·simp at hmem
     exact hc e (List.mem_of_mem_eraseIdx hmem)
    ·exact hc e hmem
theorem assocOf_put {κ : Type} [DecidableEq κ] (k x : κ) (v : Value) (l : List (κ × Value)) : assocOf x (assocPut k v l) = if x = k then some v else assocOf x l := by
 induction l with
 | nil => simp only [assocPut, assocOf]
 | cons p l ih =>
   simp only [assocPut]
   by_cases h : k = p.1
   ·rw [if_pos h]
    simp only [assocOf]
    by_cases hx : x = k
    ·rw [if_pos (hx.trans h), if_pos hx]
    ·rw [if_neg (fun e => hx (e.trans h.symm)), if_neg hx, if_neg (fun e => hx (e.trans h.symm))]
   ·rw [if_neg h]
    simp only [assocOf]
    by_cases hx : x = p.1
    ·rw [if_pos hx, if_pos hx, if_neg (fun e => h (e.symm.trans hx))]
    ·rw [if_neg hx, if_neg hx, ih]
theorem wpList_lookup_map {ops : Array Oper} {rest : List Oper} {o : Oper} {a : Act} {Q : Exit → Act → World → Prop} (K : KeyOk P kt enc) (hg : o.guard = none) (mo x : Operand) (t : TypeId) (c : Bool) (hop : o.op = Op.lookup t mo x c) {e : TypeId}
 (ht : P.underlying t = some (.map kt e)) (hm : a.eval mo = .map (some m)) (h : MapAt enc w m ps) (k : κ) (hx : a.eval x = enc k) (z : Value) (hz : (zeroValue e).run P w = .ok z w)
 (hK : wpList P ops Q rest (a.put o.dst (if c then .tuple #[(assocOf k ps).getD z, .bool (assocOf k ps).isSome] else (assocOf k ps).getD z)) w) : wpList P ops Q (o :: rest) a w := by
 refine wpList_plain hg fun K' hK' => ?_
 have hr := run_lookup_map K ht h k z hz c
 unfold Oper.wp
 simp only [execOp, hop, hm, hx, Sem.run_bind, hr, Result.andThen_ok, Sem.run_pure, Oper.upon]
 exact hK' _ _ hK
theorem wpList_lookup_nil {ops : Array Oper} {rest : List Oper} {o : Oper} {a : Act} {Q : Exit → Act → World → Prop} (K : KeyOk P kt enc) (hg : o.guard = none) (mo x : Operand) (t : TypeId) (c : Bool) (hop : o.op = Op.lookup t mo x c) {e : TypeId}
 (ht : P.underlying t = some (.map kt e)) (hm : a.eval mo = .map none) (k : κ) (hx : a.eval x = enc k) (z : Value) (hz : (zeroValue e).run P w = .ok z w)
 (hK : wpList P ops Q rest (a.put o.dst (if c then .tuple #[z, .bool false] else z)) w) : wpList P ops Q (o :: rest) a w := by
 refine wpList_plain hg fun K' hK' => ?_
 have hr := run_lookup_nil K ht k z hz c
 unfold Oper.wp
 simp only [execOp, hop, hm, hx, Sem.run_bind, hr, Result.andThen_ok, Sem.run_pure, Oper.upon]
 exact hK' _ _ hK
theorem wpList_mapUpdate_map {ops : Array Oper} {rest : List Oper} {o : Oper} {a : Act} {Q : Exit → Act → World → Prop} (K : KeyOk P kt enc) (hg : o.guard = none) (hd : o.dst = none) (mo x v : Operand) (t : TypeId) (hop : o.op = Op.mapUpdate t mo x v) {e : TypeId}
 (ht : P.underlying t = some (.map kt e)) (hm : a.eval mo = .map (some m)) (h : MapAt enc w m ps) (k : κ) (hx : a.eval x = enc k) (u : Value) (hv : a.eval v = u)
 (hK : ∀ w', MapAt enc w' m (assocPut k u ps) → Only (· = m) w w' → wpList P ops Q rest a w') : wpList P ops Q (o :: rest) a w := by
 refine wpList_plain hg fun K' hK' => ?_
 obtain ⟨w', hr, h1, h2⟩ := run_mapUpdate_map K ht h k u
 unfold Oper.wp
 simp only [execOp, hop, hm, hx, hv, Sem.run_bind, hr, Result.andThen_ok, Sem.run_pure, Oper.upon]
 rw [hd]
 exact hK' _ _ (hK w' h1 h2)
end
end Go.Proofs.YtcmjgghkmdbphaaGreatDoor
namespace Go.Proofs.YtcmjgghkmdbphaaGreatDoor
open Go.RowKit
theorem run_clear_blk {P : Program} {w : World} {g : Nat} {e t ty : TypeId} {cur : List Value} {z : Value} (hB : Blk w g e cur) (ht : P.underlying t = some (.slice e)) (hv : ∀ w, (zeroValue e).run P w = .ok z w) (hz : z.cells = #[z]) (h1 : z.oneCell' = true) (i m c : Nat) (hm : 0 < m) (hl : i + m ≤ cur.length) :
 ∃ w', (Builtin.clear_ #[t] ty #[.slice (some ⟨g, i, none⟩) m c]).run P w = .ok (.tuple #[]) w' ∧ Blk w' g e (cur.take i ++ List.replicate m z ++ cur.drop (i + m)) ∧ Only (· = g) w w' := by
 have hzc : (Builtin.zeroCells z.cells m).toList = List.replicate m z := by
  rw [hz]
  simp [Builtin.zeroCells]
  apply List.ext_getElem
  ·simp
  ·intro i h1 h2
   simp [Nat.mod_one]
 have hst := run_storeCells_at P g i e (List.replicate m z) 0 cur.toArray w hB (by simpa using hl) (fun v hv => by rw [List.eq_of_mem_replicate hv]; exact h1)
 simp only [Nat.add_zero, List.length_replicate] at hst
 obtain ⟨k, rfl⟩ : ∃ k, m = k + 1 := ⟨m - 1, by omega⟩
 refine ⟨_, by simp [Builtin.clear_, run_underlying ht, hv, hzc, hst]; rfl, ?_, ?_⟩
 ·have := setRow_heap w g cur.toArray (cur.take i ++ List.replicate (k + 1) z ++ cur.drop (i + (k + 1))).toArray e (0, 0) hB
  unfold Blk
  simpa using this
 ·exact ⟨rfl, rfl, rfl, by simp, fun k hk hn => setRow_other w g k _ hn⟩
theorem own_of_blk {α : Type} {R : Rep α} {w : World} {g e base cap : Nat} {S : Nat → Prop} {cur xs : List Value} {l : List α} (hB : Blk w g e cur) (hc : cur.length = cap * R.size) (hn : l.length ≤ cap) (hm : cap ≤ 9223372036854775807) (hb : base ≤ g)
 (hx : cur.take (l.length * R.size) = xs) (hf : R.flat w (fun q => S q ∧ q ≠ g) xs l) : R.Own w base e S (.slice (some ⟨g, 0, none⟩) l.length cap) l :=
 ⟨xs, ⟨hf.lens, .inr ⟨g, cap, cur.toArray, rfl, hb, hB, hn, by unfold maxLen; omega, by simpa using hc, by simpa using hx⟩⟩, hf.mono fun q hq _ => ⟨hq.1, fun h => hq.2 (by simpa [Value.ownBlock] using h)⟩⟩
theorem str_flat {w : World} {P : Nat → Prop} {l : List Str} (h : ∀ s ∈ l, sfit s) : StrR.flat w P (l.map .string) l := by
 refine ⟨l.map fun s => [.string s], by clear h; induction l with
  | nil => rfl
  | cons x l ih => simp [← ih], by simp, fun q cs s hq hs => ?_⟩
 rw [List.getElem?_map, hs] at hq
 simp at hq
 exact ⟨hq.symm, h s (List.mem_of_getElem? hs)⟩
def TellsO (F : FuncId) (caps : List Value) (G : Nat → Prop) (p : Str → Bool) (l : List Str) (w : World) : Prop :=
 ∀ (s : Str) (W : World), s ∈ l → Only G w W → Calls Tryz.prog F (.string s :: caps).toArray W fun e W' => e = .returned (.bool (p s)) ∧ Below W.heap.size W W'
theorem filter_snoc {α : Type} (p : α → Bool) (l : List α) (k : Nat) (h : k < l.length) : (l.take (k + 1)).filter p = (l.take k).filter p ++ (if p l[k] then [l[k]] else []) := by
 rw [take_snoc _ _ h, List.filter_append]
 cases hp : p l[k] <;> simp [hp]
theorem delF_any (F : FuncId) (caps : List Value) (p : Str → Bool) (hent : ∀ args w, (callFunc F args).run Tryz.prog w = .ok (.enter F args) w) (v : Value) (base : Nat) (S : Nat → Prop) (l : List Str) (w : World) (ho : StrR.Own w base 9 S v l)
 (hF : TellsO F caps (fun g => v.ownBlock = some g) p l w) :
 Calls Tryz.prog 277 #[v, .func (.func F) #[] caps.toArray] w fun e w' => GotOwn StrR base 9 S (l.filter fun s => !p s) e w' ∧ Only (fun g => v.ownBlock = some g) w w' := by
 obtain ⟨A, c, rfl, hc1, hc2⟩ := ho.form
 have hrow : StrR.Row w (fun _ => True) A l := (ho.mono (S' := fun _ => True) fun _ _ _ => trivial).row fun _ _ => trivial
 have CI := idxF_string F caps p hent A c l _ w hrow (by omega) (fun s cs W hs hr hb => by
  obtain ⟨rfl, _⟩ := hr
  exact hF s W hs (jo hb))
 have HF := jh hF; clear hF
 have HO := jh ho; clear ho hrow
 cases hi : l.findIdx? p with
 | none =>
   have hid : idxI p l = -1 := by unfold idxI; rw [hi]
   have hfl : (l.filter fun s => !p s) = l := by
    rw [List.filter_eq_self]
    intro s hs
    have := List.findIdx?_eq_none_iff.1 hi s hs
    simp [this]
   have HFL := jh hfl; clear hfl
   rw [hid] at CI
   clear hid hi
   go_enter Tryz.func277, Tryz.ntmps277
   go_wp2_with fail
   refine CI.mono ?_
   clear CI
   rintro e w1 ⟨rfl, hb1⟩
   go_wp2
   go_ret
   exact ⟨⟨_, rfl, by rw [HFL.out]; exact HO.out.ext hb1⟩, jo hb1⟩
 | some i =>
   obtain ⟨hil, hpi, hlow⟩ := List.findIdx?_eq_some_iff_getElem.1 hi
   have hid : idxI p l = i := by unfold idxI; rw [hi]
   obtain ⟨xs, hx1, hx2⟩ := HO.out
   obtain ⟨g, cap, hv, hbg, hglt⟩ := hx1.form (by omega)
   obtain ⟨rfl, rfl⟩ : A = some ⟨g, 0, none⟩ ∧ c = cap := by injection hv with h1 _ h3; exact ⟨h1, h3⟩
   clear hv
   obtain ⟨cur0, hB0, hcl0, hcx⟩ : ∃ cur0, Blk w g 9 cur0 ∧ cur0.length = c ∧ cur0.take l.length = xs := by
    rcases hx1.2 with ⟨h, h0⟩ | ⟨g', cap', cur, hv, _, hh, _, _, hsz, htk⟩
    ·omega
    ·obtain ⟨rfl, rfl⟩ : g = g' ∧ c = cap' := by injection hv with h1 _ h3; exact ⟨by simpa using h1, h3⟩
     exact ⟨cur.toList, by unfold Blk; simpa using hh, by simpa [StrR_size] using hsz, by simpa [StrR_size] using htk⟩
   have hat : ∀ (j : Nat) (s : Str), l[j]? = some s → cur0[j]? = some (.string s) := by
    intro j s hj
    have hjl := (List.getElem?_eq_some_iff.1 hj).1
    obtain ⟨css, hxs, hcn, hcf⟩ := hx2
    have hlen : ∀ cs ∈ css, cs.length = 1 := by
     intro cs hcs
     obtain ⟨q, hq, rfl⟩ := List.getElem_of_mem hcs
     exact StrR.len (hcf q _ _ (jg hq) (jg (by omega)))
    have h1 := flatten_at hlen (jg (show j < css.length by omega)) (show 0 < 1 by decide)
    obtain ⟨h2, _⟩ := hcf j _ _ (jg (show j < css.length by omega)) hj
    rw [h2, ← hxs, ← hcx, Nat.mul_one, Nat.add_zero, List.getElem?_take, if_pos hjl] at h1
    simpa using h1
   have HAT := jh hat
   have hfit : ∀ s ∈ l, sfit s := by
    intro s hs
    obtain ⟨j, hj⟩ := List.getElem?_of_mem hs
    obtain ⟨css, hxs, hcn, hcf⟩ := hx2
    have hjl := (List.getElem?_eq_some_iff.1 hj).1
    exact (hcf j _ _ (jg (show j < css.length by omega)) hj).2
   have HFIT := jh hfit
   rw [hid] at CI
   have hstart : (l.take (i + 1)).filter (fun s => !p s) = l.take i := by
    rw [filter_snoc _ _ _ hil]
    simp only [hpi, Bool.not_true, Bool.false_eq_true, if_false, List.append_nil]
    rw [List.filter_eq_self]
    intro s hs
    obtain ⟨j, hj, rfl⟩ := List.getElem_of_mem hs
    rw [List.getElem_take]
    have := hlow j (by simp at hj; omega)
    simpa using this
   have HST := jh hstart
   have HL := jh hlow
   clear hat hfit hx1 hx2 hcx hid hi hlow hpi hstart
   go_enter Tryz.func277, Tryz.ntmps277
   go_wp2_with fail
   refine CI.mono ?_
   clear CI
   rintro e w1 ⟨rfl, hb1⟩
   have e1 : ((i : Int) == -1) = false := by rw [beq_eq_false_iff_ne]; omega
   go_wp2_with fail
   go_loopw [5, 6, 7] (fun x y _ wr => ∃ (k j : Nat) (cur : List Value), x = .int .i64 k ∧ y = .int .i64 j ∧ k < j ∧ j ≤ l.length ∧ Blk wr g 9 cur ∧ cur.length = c ∧ cur.take k = ((l.take j).filter fun s => !p s).map .string ∧
    ((l.take j).filter fun s => !p s).length = k ∧ (∀ (q : Nat) (s : Str), j ≤ q → l[q]? = some s → cur[q]? = some (.string s)) ∧ Only (· = g) w wr) (fun _ y _ _ => l.length - (intOf y).toNat)
   case atStart =>
    refine ⟨i, i + 1, cur0, rfl, by go_num, by omega, by omega, hB0.ext hb1, hcl0, ?_, ?_, fun q s _ hq => HAT.out q s hq, jo hb1⟩
    ·rw [HST.out]
     apply List.ext_getElem?
     intro q
     rw [List.getElem?_take, List.getElem?_map, List.getElem?_take]
     by_cases hq : q < i
     ·rw [if_pos hq, if_pos hq, HAT.out q _ (jg (by omega)), jg (by omega)]; rfl
     ·rw [if_neg hq, if_neg hq]; rfl
    ·rw [HST.out]; simp; omega
   case round =>
    obtain ⟨k, j, cur, rfl, rfl, hkj, hj, hB, hcl, htk, hfl, hrest, hon⟩ := hrel
    have hgl := hB.lt
    by_cases hlt : j < l.length
    ·have hlj := jg hlt
     have hsj := hrest j _ (Nat.le_refl _) hlj
     have hmem := List.getElem_mem hlt
     have hfs := filter_snoc (fun s => !p s) l j hlt
     generalize l[j] = s at hlj hsj hmem hfs
     have cj := hB.cell j
     rw [hsj] at cj
     have hfz := hB.frozen k
     have hkc : k < cur.length := by omega
     have ck := hB.cell k
     rw [jg hkc] at ck
     have hlt' : (j : Int) < l.length := by omega
     have hkl' : (k : Int) < l.length := by omega
     have C := HF.out s wr hmem (hon.mono fun q hq => by simp [Value.ownBlock, hq])
     have HX := jh (ja htk (ja hfl (ja hrest (ja hfs hlj)))); clear htk hfl hrest hfs hlj hsj
     go_wp2_with fail
     refine C.mono ?_
     clear C
     cases hp : p s with
     | true =>
       have HP := jh hp; clear hp
       rintro e w2 ⟨rfl, hb2⟩
       go_wp2
       go_round
       case rel =>
        obtain ⟨htk, hfl, hrest, hfs, hlj⟩ := HX.out
        rw [HP.out] at hfs
        simp at hfs
        refine ⟨k, j + 1, cur, rfl, by go_num, by omega, by omega, hB.ext hb2, hcl, ?_, ?_, fun q s hq hs => hrest q s (by omega) hs, hon.tr (jo hb2)⟩
        ·rw [hfs]; exact htk
        ·rw [hfs]; exact hfl
       case measure => simp [intOf]; omega
     | false =>
       have HP := jh hp; clear hp
       rintro e w2 ⟨rfl, hb2⟩
       have hB2 := hB.ext hb2
       have hf2 := hB2.frozen k
       have c2 := hB2.cell k
       rw [jg hkc] at c2
       clear hfz cj ck
       go_wp2
       go_round
       case rel =>
        obtain ⟨htk, hfl, hrest, hfs, hlj⟩ := HX.out
        rw [HP.out] at hfs
        simp at hfs
        refine ⟨k + 1, j + 1, cur.set k (.string s), by go_num, by go_num, by omega, by omega, hB2.set_ k _, by simpa using hcl, ?_, ?_, ?_, (hon.tr (jo hb2)).tr (Only.set_ (F := fun x => x = g) (p := ⟨g, k, none⟩) rfl _)⟩
        ·rw [hfs, List.map_append, ← htk]
         rw [List.take_set, List.take_succ_eq_append_getElem hkc]
         rw [List.set_append_right _ _ (by simp; omega)]
         simp [Nat.min_eq_left (Nat.le_of_lt hkc)]
        ·rw [hfs]; simp; exact hfl
        ·intro q s' hq hs
         rw [List.getElem?_set_ne (by omega)]
         exact hrest q s' (by omega) hs
       case measure => simp [intOf]; omega
    ·have hjl : j = l.length := by omega
     subst hjl
     have hlt' : ¬ (l.length : Int) < l.length := by omega
     have hkc : ¬ c = k := by omega
     have hk0 : (k : Int) ≤ l.length := by omega
     have hk1 : (l.length : Int) ≤ c := by omega
     obtain ⟨w2, hcr, hB2, ho2⟩ := run_clear_blk (P := Tryz.prog) (t := 67) (ty := 0) (z := .string ⟨#[]⟩) hB Tryz.underlying67 (fun _ => by kernel_rfl) rfl rfl k (l.length - k) (c - k) (by omega) (by omega)
     go_wp2_with fail
     go_ret
     rw [List.take_length] at htk hfl
     refine ⟨⟨_, rfl, ?_⟩, (hon.tr ho2).mono fun q hq => by simp [Value.ownBlock, hq]⟩
     have key := own_of_blk (R := StrR) (base := base) (S := S) (cap := c) (xs := (l.filter fun s => !p s).map .string) (l := l.filter fun s => !p s) hB2 (by simp [StrR_size]; omega) (by rw [hfl]; omega) hc2 hbg (by
      rw [hfl, StrR_size, Nat.mul_one, List.append_assoc, List.take_append_of_le_length (by simp; omega), ← htk]
      exact List.take_of_length_le (by simp; omega)) (str_flat fun s hs => HFIT.out s (List.mem_filter.1 hs).1)
     rw [hfl] at key
     exact key
theorem equal_any (A A' : Option Addr) (c c' : Nat) (l m : List Str) (P Q : Nat → Prop) (w : World) (hr : StrR.Row w P A l) (hq : StrR.Row w Q A' m) (hl : l.length ≤ 9223372036854775807) (_hm : m.length ≤ 9223372036854775807) :
 Calls Tryz.prog 273 #[.slice A l.length c, .slice A' m.length c'] w fun e w' => e = .returned (.bool (decide (l = m))) ∧ Below w.heap.size w w' := by
 by_cases hlen : l.length = m.length
 ·have e0 : ((l.length : Int) != m.length) = false := by simp [hlen]
  have HLEN := jh hlen; clear hlen
  have HR := jh hr; clear hr
  have HQ := jh hq; clear hq
  go_enter Tryz.func273, Tryz.ntmps273
  go_wp2
  go_loopw [5, 13] (fun _ i wr => ∃ k : Nat, k ≤ l.length ∧ i = .int .i64 k ∧ (∀ j, j < k → l[j]? = m[j]?) ∧ Below w.heap.size w wr) (fun _ i _ => l.length - (intOf i).toNat)
  case atStart => exact ⟨0, Nat.zero_le _, rfl, fun j hj => absurd hj (by omega), jb _ _⟩
  case round =>
   obtain ⟨k, hk, rfl, hsame, hbl⟩ := hrel
   have HS := jh hsame; clear hsame
   by_cases hlt : k < l.length
   ·have hlk := jg hlt
    have hmk := jg (show k < m.length by have := HLEN.out; omega)
    generalize l[k] = a at hlk
    generalize m[k]'(by have := HLEN.out; omega) = a' at hmk
    obtain ⟨b, o, cs, rfl, hP, hbw, ⟨rfl, _⟩, hcs⟩ := (HR.out.ext hbl).at_ hlk
    obtain ⟨b', o', cs', rfl, hP', hbw', ⟨rfl, _⟩, hcs'⟩ := (HQ.out.ext hbl).at_ hmk
    have c0 := hcs 0 _ rfl
    have c1 := hcs' 0 _ rfl
    simp only [StrR_size, Nat.mul_one, Nat.add_zero] at c0 c1
    have hlt' : (k : Int) < l.length := by omega
    have hlt2 : (k : Int) < m.length := by have := HLEN.out; omega
    have HK := jh (ja hlk hmk)
    clear hlk hmk hcs hcs'
    by_cases hab : a = a'
    ·subst hab
     go_wp2_with fail
     go_quiet (fail)
     go_wp2_with fail
     go_round
     case rel =>
      refine ⟨k + 1, by omega, by go_num, fun j hj => ?_, hbl.drewN _⟩
      by_cases hjk : j < k
      ·exact HS.out j hjk
      ·have : j = k := by omega
       subst this
       rw [HK.out.1, HK.out.2]
     case measure => simp [intOf]; omega
    ·have hne : (a.toList == a'.toList) = false := by
      rw [beq_eq_false_iff_ne]; intro h; exact hab (by rw [ByteArray.toList_eq, ByteArray.toList_eq] at h; obtain ⟨⟨x⟩⟩ := a; obtain ⟨⟨y⟩⟩ := a'; simp at h; simp [h])
     have HAB := jh hab; clear hab
     go_wp2_with fail
     go_quiet (fail)
     go_wp2_with fail
     go_ret
     refine ⟨ret_bool ?_, hbl.drewN _⟩
     symm
     rw [decide_eq_false_iff_not]
     intro h
     have := HK.out.1
     rw [h, HK.out.2] at this
     injection this with this
     exact HAB.out this.symm
   ·go_wp2
    go_ret
    refine ⟨ret_bool ?_, hbl⟩
    symm
    rw [decide_eq_true_iff]
    apply List.ext_getElem?
    intro j
    by_cases hj : j < k
    ·exact HS.out j hj
    ·have := HLEN.out
     rw [List.getElem?_eq_none (by omega), List.getElem?_eq_none (by omega)]
 ·have e0 : ((l.length : Int) != m.length) = true := by rw [bne_iff_ne]; omega
  have HLEN := jh hlen; clear hlen
  go_enter Tryz.func273, Tryz.ntmps273
  go_wp2
  go_ret
  exact ⟨ret_bool (by symm; rw [decide_eq_false_iff_not]; intro h; exact HLEN.out (by rw [h])), jb _ _⟩
theorem unvalid_any (s : Str) (w : World) (hs : sfit s) (hT : Tabs w) : Calls Tryz.prog 304 #[.string s] w fun e w' => e = .returned (.bool (!validB s)) ∧ Below w.heap.size w w' := by
 have C := valid_any s w hs hT
 go_enter Tryz.func304, Tryz.ntmps304
 go_wp2_with fail
 refine C.mono ?_
 clear C
 rintro e w' ⟨rfl, hb⟩
 go_wp2
 go_ret
 exact ⟨rfl, hb⟩
theorem Tabs.only {F : Nat → Prop} {w w' : World} (h : Tabs w) (hb : Only F w w') (h0 : ¬ F 0) (h1 : ¬ F 1) : Tabs w' := by
 have keep : ∀ {a : Addr} {v : Value}, (a.block = 0 ∨ a.block = 1) → w.cell? a = some v → w'.cell? a = some v := fun {a v} ha hc =>
  (World.cell?_of_block (w := w) (hb.block a.block (lt_of_cell hc) (by rcases ha with e | e <;> rw [e] <;> assumption))).trans hc
 exact ⟨fun c hc => keep (.inl rfl) (h.1 c hc), fun i hi => ⟨keep (.inr rfl) (h.2 i hi).1, keep (.inr rfl) (h.2 i hi).2⟩⟩
theorem validL_any (A : Option Addr) (c : Nat) (l : List Str) (P : Nat → Prop) (w : World) (hr : StrR.Row w P A l) (hl : l.length ≤ 100000000) (hs : ∀ s ∈ l, sfit s) (hT : Tabs w) (h2 : 2 ≤ w.heap.size) :
 Calls Tryz.prog 274 #[.slice A l.length c] w fun e w' => GotOwn StrR w.heap.size 9 (fun g => w.heap.size ≤ g ∨ P g) (l.filter validB) e w' ∧ Below w.heap.size w w' := by
 have C := clone_string A c l P w hr hl
 have HS := jh hs; clear hs
 have HL := jh hl; clear hl
 have hf : (l.filter fun s => !!validB s) = l.filter validB := by simp
 have HF := jh hf; clear hf
 go_enter Tryz.func274, Tryz.ntmps274
 go_wp2_with fail
 refine C.mono ?_
 clear C
 rintro e w1 ⟨⟨v1, rfl, ho1⟩, hb1⟩
 have hlt := ho1.lt
 have D := delF_any 304 [] (fun s => !validB s) (Go.Proofs.enters_of Tryz.func304 (by kernel_rfl) rfl) v1 _ _ l w1 ho1 (fun s W hs ho => unvalid_any s W (HS.out s hs) ((hT.below hb1).only ho (fun h => by have := (hlt 0 h).1; omega) (fun h => by have := (hlt 1 h).1; omega)))
 rw [HF.out] at D
 go_wp2_with fail
 refine D.mono ?_
 clear D
 rintro e w2 ⟨⟨v2, rfl, ho2⟩, hb2⟩
 go_wp2
 go_ret
 exact ⟨⟨_, rfl, ho2⟩, hb1.trans (hb2.low (fun g hg => (hlt g hg).1) hb1.size)⟩
end Go.Proofs.YtcmjgghkmdbphaaGreatDoor
namespace Go.Proofs.YtcmjgghkmdbphaaGreatDoor
section
variable {P : Program} {ops : Array Oper} {md : Region.Mode} {Q : Exit → Act → World → Prop}
def plainKind (o : Oper) : Bool :=
 match o.op with
 | .move _ | .assign _ | .pick .. | .load .. | .binOp .. | .unOp .. | .convert .. | .fieldAddr .. | .field .. | .indexAddr .. | .index .. | .lookup .. | .slice .. | .extract .. | .build .. | .makeInterface .. | .makeFunc .. | .nilCheck _ => true
 | .call { callee := .builtin .len, .. } | .call { callee := .builtin .min, .. } | .call { callee := .builtin .max, .. } => true
 | _ => false
theorem run_val_enter {s : Sem Value} {w w' : World} {f : FuncId} {args : Array Value} : ((do pure (Next.value (← s))) : Sem Next).run P w ≠ .ok (.enter f args) w' := by
 intro h
 simp only [Sem.run_bind] at h
 generalize s.run P w = r at h
 cases r with
 | ok v w1 => simp [Result.andThen] at h
 | halt x w1 => simp [Result.andThen] at h
theorem run_bool_enter {s : Sem Bool} {x y : Value} {w w' : World} {f : FuncId} {args : Array Value} : ((do pure (Next.value (if ← s then x else y))) : Sem Next).run P w ≠ .ok (.enter f args) w' := by
 intro h
 simp only [Sem.run_bind] at h
 generalize s.run P w = r at h
 cases r with
 | ok v w1 => simp [Result.andThen] at h
 | halt x w1 => simp [Result.andThen] at h
theorem plain_run {o : Oper} (h : plainKind o = true) (ρ : Operand → Value) (w w' : World) (f : FuncId) (args : Array Value) : (execOp ρ o).run P w ≠ .ok (.enter f args) w' := by
 obtain ⟨dst, op, ty, pos, after, guard⟩ := o
 cases op <;> first | (simp [plainKind] at h; done) | exact run_val_enter | exact run_bool_enter | skip
 case move x => intro h; cases h
 case assign x => intro h; cases h
 case nilCheck x =>
  intro h
  simp only [execOp] at h
  split at h
  ·simp [runtimePanic] at h
  ·simp [runtimePanic] at h
  ·simp [runtimePanic] at h
  ·split at h
   ·simp [runtimePanic] at h
   ·simp only [Sem.run_bind, run_program, Result.andThen_ok] at h
    generalize hr : Sem.run P _ w = r at h
    cases r with
    | ok v w1 =>
      simp only [Result.andThen] at h
      split at h
      ·simp [unsupported] at h
      ·simp at h
    | halt x w1 => simp [Result.andThen] at h
   ·simp at h
  ·simp at h
 case call c =>
  obtain ⟨callee, cargs, cty⟩ := c
  cases callee with
  | value f => simp [plainKind] at h
  | invoke r n => simp [plainKind] at h
  | builtin b =>
    have key : ∀ (ts : Array TypeId) (t : TypeId) (cs : Array Bool) (vs : Array Value), (builtin b ts t cs vs).run P w ≠ .ok (.enter f args) w' := by
     intro ts t cs vs
     cases b <;> first | (simp [plainKind] at h; done) | exact run_val_enter
    intro hh
    simp only [execOp, resolve, invoke, Sem.run_bind, Sem.run_pure, Result.andThen_ok] at hh
    exact key _ _ _ _ hh
def YieldsC (P : Program) (ops : Array Oper) (C : World → Prop) (o : Oper) (v : Value) (a : Act) : Prop :=
 (Region.wanted o (yielded ops a.tmps) = true ∧ ∀ w, C w → (execOp a.eval o).run P w = .ok (.value v) w ∨ ((execOp a.eval o).run P w = .ok .skip w ∧ v = undef)) ∨
 (Region.wanted o (yielded ops a.tmps) = false ∧ v = undef)
theorem YieldsC.sub {C C' : World → Prop} {o : Oper} {v : Value} {a : Act} (h : YieldsC P ops C o v a) (hs : ∀ w, C' w → C w) : YieldsC P ops C' o v a :=
 h.imp (fun ⟨h1, h2⟩ => ⟨h1, fun w hw => h2 w (hs w hw)⟩) id
theorem YieldsC.of_same {C : World → Prop} {o : Oper} {v : Value} {a a' : Act} (hy : YieldsC P ops C o v a) (he : execOp a'.eval o = execOp a.eval o)
 (hw : Region.wanted o (yielded ops a'.tmps) = Region.wanted o (yielded ops a.tmps)) : YieldsC P ops C o v a' := by
 unfold YieldsC at *
 rw [he, hw]
 exact hy
theorem YieldsC.wpOp {C : World → Prop} {i : Nat} {o : Oper} {v : Value} {a : Act} (hi : ops[i]? = some o) (hy : YieldsC P ops C o v a)
 {K : Act → World → Prop} {w : World} (hC : C w) (h : K (a.put o.dst v) w) : wpOp P ops Q i K a w := by
 unfold Go.wpOp
 simp only [hi]
 rcases hy with ⟨hw, hv⟩ | ⟨hw, rfl⟩
 ·simp only [hw, if_true]
  rcases hv w hC with h1 | ⟨h1, h2⟩
  ·exact .inl (by unfold Oper.wp; rw [h1]; exact h)
  ·subst h2; exact .inl (by unfold Oper.wp; rw [h1]; exact h)
 ·simp only [hw, Bool.false_eq_true, if_false]; exact h
theorem wpOp_putC {C : World → Prop} {j : Nat} {oi oj : Oper} {v : Value} (hj : ops[j]? = some oj) (hap : oi.apart ops oj = true)
 (hsi : ∀ cs b, oi.op ≠ .select cs b) (hsj : ∀ cs b, oj.op ≠ .select cs b)
 (hQ : ∀ c a w, Q (.panic c) (a.put oi.dst v) w → Q (.panic c) a w) {K : Act → World → Prop} {a : Act} {w : World}
 (hy : YieldsC P ops C oi v a) (h : wpOp P ops Q j K (a.put oi.dst v) w) :
 wpOp P ops Q j (fun a' w' => YieldsC P ops C oi v a' ∧ K (a'.put oi.dst v) w') a w := by
 obtain ⟨h1, h2, h3⟩ := Oper.apart_spec hap
 have keep : ∀ (a : Act), YieldsC P ops C oi v a → ∀ u, YieldsC P ops C oi v (a.put oj.dst u) := fun a hy u =>
  hy.of_same (execOp_put oi hsi a oj.dst u h3) (wanted_put oi a oj.dst u h3)
 have keepD : ∀ d, YieldsC P ops C oi v { a with defers := d :: a.defers } := fun d => hy.of_same rfl rfl
 unfold wpOp at *
 simp only [hj] at *
 rw [wanted_put oj a oi.dst v h1] at h
 split
 ·rename_i hw
  simp only [hw, if_true] at h
  rcases h with h | ⟨hasks, hlets⟩
  case inr => exact .inr ⟨by unfold Oper.asks at *; rw [execOp_put oj hsj a oi.dst v h1] at hasks; exact hasks, hlets⟩
  refine .inl ?_
  unfold Oper.wp at *
  rw [execOp_put oj hsj a oi.dst v h1] at h
  generalize (execOp a.eval oj).run P w = r at *
  cases r with
  | ok n w' =>
    cases n <;> simp only [Oper.upon] at h ⊢
    case value u => exact ⟨keep a hy u, by rw [← Act.put_comm a v u h2]; exact h⟩
    case skip => exact ⟨keep a hy _, by rw [← Act.put_comm a v undef h2]; exact h⟩
    case defer d =>
     refine ⟨keep _ (keepD d) _, ?_⟩
     rw [← Act.put_comm _ v undef h2, ← Act.put_defers]
     exact h
    case enter f args =>
     refine Calls.mono h fun e w'' he => ?_
     cases e with
     | returned u => exact ⟨keep a hy u, by rw [← Act.put_comm a v u h2]; exact he⟩
     | panicked c => exact hQ _ _ _ he
     | outgrown => exact he
    case row row args => exact Rows.mono h fun u w'' he => ⟨keep a hy u, by rw [← Act.put_comm a v u h2]; exact he⟩
  | halt x w' =>
    cases x <;> simp only [Oper.upon] at h ⊢
    case panic u => exact hQ _ _ _ h
 ·rename_i hw
  simp only [hw] at h
  exact ⟨keep a hy _, by rw [← Act.put_comm a v undef h2]; exact h⟩
def waitsAll (md : Region.Mode) (ops : Array Oper) (H : List Nat) (t : Nat) : Bool :=
 H.all fun k => k == t || (((ops[t]?).map fun o => o.after.toList.any fun e => Region.binds md e && e.on == k).getD false)
theorem waitsAll_spec {H : List Nat} {t k : Nat} {o : Oper} (h : waitsAll md ops H t = true) (ho : ops[t]? = some o) (hk : k ∈ H) (hkt : k ≠ t) : ∃ e ∈ o.after, Region.binds md e = true ∧ e.on = k := by
 have h1 := List.all_eq_true.1 h k hk
 rw [ho] at h1
 simp only [Option.map_some, Option.getD_some, Bool.or_eq_true, beq_iff_eq, List.any_eq_true, Bool.and_eq_true] at h1
 rcases h1 with h1 | ⟨e, he, h2, h3⟩
 ·exact absurd h1 hkt
 ·exact ⟨e, by simpa using he, h2, h3⟩
def wpAnyC (P : Program) (md : Region.Mode) (ops : Array Oper) (H : List Nat) (Q : Exit → Act → World → Prop) : Nat → Array Bool → (World → Prop) → Act → World → Prop
 | 0, listed, _, a, w => Region.ready md ops listed = [] ∧ Q .normal a w
 | fuel + 1, listed, C, a, w =>
   (Region.ready md ops listed = [] → Q .normal a w) ∧
   ∀ i ∈ Region.ready md ops listed, wpOp P ops Q i (fun a' w' => ∃ C' : World → Prop, C' w' ∧ ((∀ w, C' w → C w) ∨ waitsAll md ops H i = true) ∧ wpAnyC P md ops H Q fuel (listed.setIfInBounds i true) C' a' w') a w
theorem wpAny_of_C {H : List Nat} : ∀ (fuel : Nat) (listed : Array Bool) (C : World → Prop) (a : Act) (w : World), wpAnyC P md ops H Q fuel listed C a w → wpAny P md ops Q fuel listed a w
 | 0, _, _, _, _, h => h
 | fuel + 1, _, _, _, _, h => ⟨h.1, fun i hi => wpOp_mono (fun a' w' ⟨C', _, _, h'⟩ => wpAny_of_C fuel _ C' a' w' h') (h.2 i hi)⟩
theorem wpAnyC_take {H : List Nat} {i : Nat} (hiH : i ∈ H) {oi : Oper} {v : Value} (hi : ops[i]? = some oi) (hsel : ∀ (j : Nat) (o : Oper) cs b, ops[j]? = some o → o.op ≠ .select cs b)
 (hQ : ∀ c a w, Q (.panic c) (a.put oi.dst v) w → Q (.panic c) a w) :
 ∀ (fuel : Nat) (listed : Array Bool) (C : World → Prop) (a : Act) (w : World), C w →
   (∀ j oj, ops[j]? = some oj → j ≠ i → listed.getD j true = false → (∀ e ∈ oj.after, Region.binds md e = true → e.on ≠ i) → oi.apart ops oj = true) →
   i ∈ Region.ready md ops listed → YieldsC P ops C oi v a →
   wpAnyC P md ops H Q fuel (listed.setIfInBounds i true) C (a.put oi.dst v) w → wpAnyC P md ops H Q (fuel + 1) listed C a w := by
 intro fuel
 induction fuel with
 | zero =>
   intro listed C a w hC _ hr hy H
   refine ⟨fun h => (by rw [h] at hr; cases hr), fun j hj => ?_⟩
   by_cases hji : j = i
   ·subst hji; exact hy.wpOp hi hC ⟨C, hC, .inl fun _ h => h, H⟩
   ·have := ready_mono hj hji
    rw [H.1] at this
    cases this
 | succ fuel ih =>
   intro listed C a w hC hfree hr hy H
   refine ⟨fun h => (by rw [h] at hr; cases hr), fun j hj => ?_⟩
   by_cases hji : j = i
   ·subst hji; exact hy.wpOp hi hC ⟨C, hC, .inl fun _ h => h, H⟩
   ·have h1 := H.2 j (ready_mono hj hji)
    obtain ⟨hjun, oj, hoj, hall⟩ := mem_ready.1 hj
    have hap := hfree j oj hoj hji hjun (ready_not hj hoj hr)
    have hfree' : ∀ k ok, ops[k]? = some ok → k ≠ i → (listed.setIfInBounds j true).getD k true = false →
     (∀ e ∈ ok.after, Region.binds md e = true → e.on ≠ i) → oi.apart ops ok = true := fun k ok hk hki hun hno => by
     refine hfree k ok hk hki ?_ hno
     by_cases hjk : j = k
     ·subst hjk; exact hjun
     ·rw [getD_set_ne true hjk] at hun; exact hun
    have h2 := wpOp_putC hoj hap (fun cs b => hsel i oi cs b hi) (fun cs b => hsel j oj cs b hoj) hQ hy h1
    have hri := ready_mono hr (Ne.symm hji)
    refine wpOp_mono (fun a' w' ⟨hy', C', hC', hsub', h3⟩ => ?_) h2
    have hsub : ∀ w, C' w → C w := hsub'.resolve_right fun hn => by
     obtain ⟨e, he, hb, hon⟩ := waitsAll_spec hn hoj hiH (Ne.symm hji)
     have h5 := hall e he hb
     rw [hon] at h5
     have h6 := getD_both (mem_ready.1 hr).1
     rw [h5] at h6
     cases h6
    refine ⟨C', hC', .inl hsub, ih (listed.setIfInBounds j true) C' a' w' hC' hfree' hri (hy'.sub hsub) ?_⟩
    rw [Array.setIfInBounds_comm _ _ hji]
    exact h3
def headC (md : Region.Mode) (ops : Array Oper) (next : Array Bool → Bool) : List Nat → Array Bool → Bool
 | [], listed => next listed
 | i :: r, listed => (Region.ready md ops listed).contains i && Region.free md ops listed i && ((ops[i]?).map plainKind).getD false && headC md ops next r (listed.setIfInBounds i true)
inductive Plan where
 | leaf (head : List Nat)
 | seg (head : List Nat) (t : Nat) (p : Plan)
 | last (head : List Nat) (t : Nat)
 | fork (head : List Nat) (t1 : Nat) (p1 : Plan) (t2 : Nat) (p2 : Plan)
def lenC : Plan → Nat
 | .leaf h => h.length
 | .seg h _ p => h.length + (lenC p + 1)
 | .last h _ => h.length + 1
 | .fork h _ p _ _ => h.length + (lenC p + 1)
def segC (md : Region.Mode) (ops : Array Oper) (H : List Nat) : Plan → Array Bool → Bool
 | .leaf h, listed => headC md ops (fun l => (Region.ready md ops l).isEmpty) h listed
 | .seg h t p, listed => headC md ops (fun l => decide (Region.ready md ops l = [t]) && segC md ops H p (l.setIfInBounds t true)) h listed
 | .last h t, listed => headC md ops (fun l => decide (Region.ready md ops l = [t]) && (waitsAll md ops H t && (Region.ready md ops (l.setIfInBounds t true)).isEmpty)) h listed
 | .fork h t1 p1 t2 p2, listed => headC md ops (fun l => decide (Region.ready md ops l = [t1, t2]) && (decide (lenC p1 = lenC p2) && (segC md ops H p1 (l.setIfInBounds t1 true) && segC md ops H p2 (l.setIfInBounds t2 true)))) h listed
def headsP : Plan → List Nat
 | .leaf h => h
 | .seg h _ p => h ++ headsP p
 | .last h _ => h
 | .fork h _ p1 _ p2 => h ++ (headsP p1 ++ headsP p2)
def mixB (md : Region.Mode) (ops : Array Oper) (p : Plan) : Bool :=
 Region.noSelect ops && decide (lenC p = ops.size) && segC md ops (headsP p) p (Array.replicate ops.size false)
def wpMix (P : Program) (ops : Array Oper) (Q : Exit → Act → World → Prop) (l : List Oper) : Plan → (World → Prop) → Act → World → Prop
 | .leaf h, C, a, w => wpQuiet P ops C (fun a' => Q .normal a' w) (pick l h) a
 | .seg h t p, C, a, w => wpQuiet P ops C (fun a' => wpList P ops (SegQ (fun a'' w'' => ∃ C' : World → Prop, C' w'' ∧ (∀ w, C' w → C w) ∧ wpMix P ops Q l p C' a'' w'') Q) (pick l [t]) a' w) (pick l h) a
 | .last h t, C, a, w => wpQuiet P ops C (fun a' => wpList P ops (SegQ (Q .normal) Q) (pick l [t]) a' w) (pick l h) a
 | .fork h t1 p1 t2 p2, C, a, w => wpQuiet P ops C (fun a' => wpList P ops (SegQ (fun a'' w'' => ∃ C' : World → Prop, C' w'' ∧ (∀ w, C' w → C w) ∧ wpMix P ops Q l p1 C' a'' w'') Q) (pick l [t1]) a' w ∧
  wpList P ops (SegQ (fun a'' w'' => ∃ C' : World → Prop, C' w'' ∧ (∀ w, C' w → C w) ∧ wpMix P ops Q l p2 C' a'' w'') Q) (pick l [t2]) a' w) (pick l h) a
theorem wpAnyC_head {H : List Nat} {next : Array Bool → Bool} {n : Nat} {K : Act → Prop} {C : World → Prop} {w : World} (hC : C w) (hs : Region.noSelect ops = true)
 (hn : ∀ listed a, next listed = true → K a → wpAnyC P md ops H Q n listed C a w) (hQ : ∀ c a d v w, Q (.panic c) (Act.put a d v) w → Q (.panic c) a w) :
 ∀ (head : List Nat) (listed : Array Bool) (a : Act), (∀ i ∈ head, i ∈ H) → headC md ops next head listed = true → wpQuiet P ops C K (pick ops.toList head) a → wpAnyC P md ops H Q (head.length + n) listed C a w
 | [], listed, a, _, hB, h => by
   simp only [List.length_nil, Nat.zero_add]
   exact hn listed a (by simpa [headC] using hB) (by simpa [pick, wpQuiet] using h)
 | i :: r, listed, a, hiH, hB, h => by
   simp only [headC, Bool.and_eq_true] at hB
   obtain ⟨⟨⟨hr, hf⟩, hk⟩, hB'⟩ := hB
   have hr' : i ∈ Region.ready md ops listed := by simpa using hr
   obtain ⟨hun, o, ho, _⟩ := mem_ready.1 hr'
   have hp : pick ops.toList (i :: r) = o :: pick ops.toList r := by
    have : ops.toList[i]? = some o := by simpa using ho
    exact List.filterMap_cons_some this
   rw [hp] at h
   have hpk : plainKind o = true := by rw [ho] at hk; simpa using hk
   have hst : ∃ v, YieldsC P ops C o v a ∧ wpQuiet P ops C K (pick ops.toList r) (a.put o.dst v) := by
    unfold wpQuiet at h
    split at h
    ·rename_i hw
     obtain ⟨v, hv, hn⟩ := h
     refine ⟨v, .inl ⟨hw, fun w' hw' => ?_⟩, hn⟩
     have h1 := hv w' hw'
     unfold Oper.quietAt at h1
     have hne := fun f args w'' => plain_run (P := P) hpk a.eval w' w'' f args
     generalize (execOp a.eval o).run P w' = res at *
     cases res with
     | ok nx w'' =>
       cases nx <;> simp only [Oper.quietUpon] at h1
       case value u => obtain ⟨rfl, rfl⟩ := h1; exact .inl rfl
       case skip => obtain ⟨rfl, rfl⟩ := h1; exact .inr ⟨rfl, rfl⟩
       case enter f args => exact absurd rfl (hne f args w'')
     | halt x w'' => simp only [Oper.quietUpon] at h1
    ·rename_i hw
     exact ⟨undef, .inr ⟨by simpa using hw, rfl⟩, h⟩
   obtain ⟨v, hy, hK⟩ := hst
   have IH := wpAnyC_head hC hs hn hQ r (listed.setIfInBounds i true) (a.put o.dst v) (fun j hj => hiH j (List.mem_cons_of_mem _ hj)) hB' hK
   rw [List.length_cons, show r.length + 1 + n = (r.length + n) + 1 by omega]
   exact wpAnyC_take (hiH i (List.mem_cons_self ..)) ho (Region.noSelect_spec hs) (fun c a w => hQ c a o.dst v w) _ listed C a w hC (Region.free_spec ho hf) hr' hy IH
theorem wpAnyC_tail {H : List Nat} {t n : Nat} {C : World → Prop} {p : Plan} {listed : Array Bool} {a : Act} {w : World} {o : Oper} (ho : ops[t]? = some o)
 (ih : ∀ (listed : Array Bool) (C : World → Prop) (a : Act) (w : World), C w → segC md ops H p listed = true → wpMix P ops Q ops.toList p C a w → wpAnyC P md ops H Q n listed C a w)
 (hB : segC md ops H p (listed.setIfInBounds t true) = true)
 (h : wpList P ops (SegQ (fun a'' w'' => ∃ C' : World → Prop, C' w'' ∧ (∀ w, C' w → C w) ∧ wpMix P ops Q ops.toList p C' a'' w'') Q) (pick ops.toList [t]) a w) :
 wpOp P ops Q t (fun a' w' => ∃ C' : World → Prop, C' w' ∧ ((∀ w, C' w → C w) ∨ waitsAll md ops H t = true) ∧ wpAnyC P md ops H Q n (listed.setIfInBounds t true) C' a' w') a w := by
 have hp : pick ops.toList [t] = [o] := by
  have : ops.toList[t]? = some o := by simpa using ho
  simp only [pick, List.filterMap_cons, this, List.filterMap_nil]
 rw [hp] at h
 have hw : wpOp P ops (SegQ (fun a'' w'' => ∃ C' : World → Prop, C' w'' ∧ (∀ w, C' w → C w) ∧ wpMix P ops Q ops.toList p C' a'' w'') Q) t (fun a' w' => wpList P ops (SegQ (fun a'' w'' => ∃ C' : World → Prop, C' w'' ∧ (∀ w, C' w → C w) ∧ wpMix P ops Q ops.toList p C' a'' w'') Q) [] a' w') a w := by
  unfold wpOp; simp only [ho]; exact h
 refine wpOp_mono (fun a' w' h' => ?_) (wpOp_unseg hw)
 obtain ⟨C', hC', hsub, h2⟩ := (by simpa [wpList, SegQ] using h' : ∃ C' : World → Prop, C' w' ∧ (∀ w, C' w → C w) ∧ wpMix P ops Q ops.toList p C' a' w')
 exact ⟨C', hC', .inl hsub, ih _ C' a' w' hC' hB h2⟩
theorem wpAnyC_last {H : List Nat} {t : Nat} {C : World → Prop} {listed : Array Bool} {a : Act} {w : World} {o : Oper} (ho : ops[t]? = some o)
 (hW : waitsAll md ops H t = true) (hB : Region.ready md ops (listed.setIfInBounds t true) = [])
 (h : wpList P ops (SegQ (Q .normal) Q) (pick ops.toList [t]) a w) :
 wpOp P ops Q t (fun a' w' => ∃ C' : World → Prop, C' w' ∧ ((∀ w, C' w → C w) ∨ waitsAll md ops H t = true) ∧ wpAnyC P md ops H Q 0 (listed.setIfInBounds t true) C' a' w') a w := by
 have hp : pick ops.toList [t] = [o] := by
  have : ops.toList[t]? = some o := by simpa using ho
  simp only [pick, List.filterMap_cons, this, List.filterMap_nil]
 rw [hp] at h
 have hw : wpOp P ops (SegQ (Q .normal) Q) t (fun a' w' => wpList P ops (SegQ (Q .normal) Q) [] a' w') a w := by
  unfold wpOp; simp only [ho]; exact h
 refine wpOp_mono (fun a' w' h' => ?_) (wpOp_unseg hw)
 exact ⟨fun _ => True, trivial, .inr hW, hB, by simpa [wpList, SegQ] using h'⟩
theorem wpAnyC_mix {H : List Nat} (hs : Region.noSelect ops = true) (hQ : ∀ c a d v w, Q (.panic c) (Act.put a d v) w → Q (.panic c) a w) :
 ∀ (p : Plan) (listed : Array Bool) (C : World → Prop) (a : Act) (w : World), (∀ i ∈ headsP p, i ∈ H) → C w → segC md ops H p listed = true →
 wpMix P ops Q ops.toList p C a w → wpAnyC P md ops H Q (lenC p) listed C a w
 | .leaf h, listed, C, a, w, hH, hC, hB, hh => by
   have := wpAnyC_head (next := fun l => (Region.ready md ops l).isEmpty) (n := 0) (K := fun a' => Q .normal a' w) hC hs (fun listed a hnx hK => ⟨by simpa using hnx, hK⟩) hQ h listed a hH (by simpa [segC] using hB) (by simpa [wpMix] using hh)
   simpa [lenC] using this
 | .seg h t p, listed, C, a, w, hH, hC, hB, hh => by
   unfold wpMix at hh
   unfold segC at hB
   refine wpAnyC_head (K := fun a' => wpList P ops (SegQ (fun a'' w'' => ∃ C' : World → Prop, C' w'' ∧ (∀ w, C' w → C w) ∧ wpMix P ops Q ops.toList p C' a'' w'') Q) (pick ops.toList [t]) a' w) hC hs ?_ hQ h listed a (fun j hj => hH j (List.mem_append_left _ hj)) hB hh
   intro listed1 a1 hB1 h1
   simp only [Bool.and_eq_true, decide_eq_true_eq] at hB1
   refine ⟨fun h2 => (by rw [hB1.1] at h2; cases h2), fun i hi => ?_⟩
   have hi0 := hi
   rw [hB1.1] at hi
   have hit : i = t := by simpa using hi
   subst hit
   obtain ⟨_, o, ho, _⟩ := mem_ready.1 hi0
   exact wpAnyC_tail ho (fun listed C a w => wpAnyC_mix hs hQ p listed C a w (fun j hj => hH j (List.mem_append_right _ hj))) hB1.2 h1
 | .last h t, listed, C, a, w, hH, hC, hB, hh => by
   unfold wpMix at hh
   unfold segC at hB
   refine wpAnyC_head (K := fun a' => wpList P ops (SegQ (Q .normal) Q) (pick ops.toList [t]) a' w) (n := 1) hC hs ?_ hQ h listed a hH hB hh
   intro listed1 a1 hB1 h1
   simp only [Bool.and_eq_true, decide_eq_true_eq, List.isEmpty_iff] at hB1
   refine ⟨fun h2 => (by rw [hB1.1] at h2; cases h2), fun i hi => ?_⟩
   have hi0 := hi
   rw [hB1.1] at hi
   have hit : i = t := by simpa using hi
   subst hit
   obtain ⟨_, o, ho, _⟩ := mem_ready.1 hi0
   exact wpAnyC_last ho hB1.2.1 hB1.2.2 h1
 | .fork h t1 p1 t2 p2, listed, C, a, w, hH, hC, hB, hh => by
   unfold wpMix at hh
   unfold segC at hB
   refine wpAnyC_head (K := fun a' => wpList P ops (SegQ (fun a'' w'' => ∃ C' : World → Prop, C' w'' ∧ (∀ w, C' w → C w) ∧ wpMix P ops Q ops.toList p1 C' a'' w'') Q) (pick ops.toList [t1]) a' w ∧
    wpList P ops (SegQ (fun a'' w'' => ∃ C' : World → Prop, C' w'' ∧ (∀ w, C' w → C w) ∧ wpMix P ops Q ops.toList p2 C' a'' w'') Q) (pick ops.toList [t2]) a' w) hC hs ?_ hQ h listed a (fun j hj => hH j (List.mem_append_left _ hj)) hB hh
   intro listed1 a1 hB1 h1
   simp only [Bool.and_eq_true, decide_eq_true_eq] at hB1
   obtain ⟨hr, hl, hb1, hb2⟩ := hB1
   refine ⟨fun h2 => (by rw [hr] at h2; cases h2), fun i hi => ?_⟩
   have hi0 := hi
   rw [hr] at hi
   obtain ⟨_, o, ho, _⟩ := mem_ready.1 hi0
   have hit : i = t1 ∨ i = t2 := by simpa using hi
   rcases hit with rfl | rfl
   ·exact wpAnyC_tail ho (fun listed C a w => wpAnyC_mix hs hQ p1 listed C a w (fun j hj => hH j (List.mem_append_right _ (List.mem_append_left _ hj)))) hb1 h1.1
   ·rw [hl]
    exact wpAnyC_tail ho (fun listed C a w => wpAnyC_mix hs hQ p2 listed C a w (fun j hj => hH j (List.mem_append_right _ (List.mem_append_right _ hj)))) hb2 h1.2
theorem wp_region_mix {id : Nat} {a : Act} {w : World} {l : List Oper} (p : Plan) (C : World → Prop) (hm : P.follows .mixedOrders = true) (hB : mixB .any l.toArray p = true)
 (hQ : ∀ c a d v w, Q (.panic c) (Act.put a d v) w → Q (.panic c) a w) (hC : C w.drew)
 (h : wpMix P l.toArray Q l p C a w.drew) : (Code.region id l.toArray true).wp P Q a w := by
 simp only [mixB, Bool.and_eq_true, decide_eq_true_eq] at hB
 obtain ⟨⟨hs, hlen⟩, hh⟩ := hB
 refine wp_region_any hm (wpAny_of_C (H := headsP p) _ _ C _ _ ?_)
 have H := wpAnyC_mix (P := P) (md := .any) (Q := Q) hs hQ p (Array.replicate l.toArray.size false) C a w.drew (fun _ h => h) hC hh (by simpa using h)
 rw [hlen] at H
 exact H
structure Wd (D : World → Prop) where
 w : World
 ok : D w
def ClsW (D : World → Prop) (w : World) : Prop := ∃ d : Wd D, w = d.w
theorem ClsW.mk {D : World → Prop} {w : World} (h : D w) : ClsW D w := ⟨⟨w, h⟩, rfl⟩
theorem ClsW.out {D : World → Prop} {w : World} (h : ClsW D w) : D w := by obtain ⟨d, rfl⟩ := h; exact d.ok
theorem ClsW.sub {D D' : World → Prop} (h : ∀ w, D' w → D w) : ∀ w, ClsW D' w → ClsW D w := fun _ hw => .mk (h _ hw.out)
end
end Go.Proofs.YtcmjgghkmdbphaaGreatDoor
namespace Go.Proofs.YtcmjgghkmdbphaaGreatDoor
theorem segw {P : Program} {ops : Array Oper} {Q : Exit → Act → World → Prop} {l : List Oper} {p : Plan} {a : Act} {w : World} {D : World → Prop} (h : D w) (k : wpMix P ops Q l p (fun w' => ∃ d : Wd D, w' = d.w) a w) :
 wpList P ops (SegQ (fun a'' w'' => ∃ C' : World → Prop, C' w'' ∧ (∀ w, C' w → ∃ d : Wd D, w = d.w) ∧ wpMix P ops Q l p C' a'' w'') Q) [] a w := by
 dsimp only [wpList, SegQ]
 exact ⟨_, ClsW.mk h, fun _ h => h, k⟩
end Go.Proofs.YtcmjgghkmdbphaaGreatDoor
