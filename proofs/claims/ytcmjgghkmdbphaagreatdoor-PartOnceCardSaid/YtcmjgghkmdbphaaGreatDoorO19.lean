/- records that may be; the invariant of a state (plain law). state.Apply: each kind of record. state.order: the order of transactions. DERIVED: THE SHELF's CONTRACTS AT THIS DUMP, IN PLAIN WORDS (tools/lay-plain.mjs out of 'YtcmjgghkmdbphaaGreatDoorSmRaw.lean', which tools/lay-shelf.mjs wrote): THE SAME DECLARATIONS UNDER THE SAME NAMES: 'import', 'namespace', 'open', 'def', 'theorem' AND NOTHING ELSE: no command of the shelf's: FOR A HAND-IN. Each laying: the table of numbers ('.._ren') and one theorem, a field a fact of the dump's own or the kernel's comparison; each contract: ONE APPLICATION. slices.SortFunc at transactions. A row of transactions, sorted: the slice still owns it. slices.SortedFunc over the keys of a map at transactions. maps.Keys at transactions: the iterator over no map. slices.SortedFunc over a map that holds nothing; state.Held of a state that holds nothing. state.Held of any state: what is held, in some order. -/
import Derived.Test.YtcmjgghkmdbphaaGreatDoorO14
import Derived.Test.YtcmjgghkmdbphaaGreatDoorO18
import Derived.Shelf.SlSortCmp.WholeK
import Derived.Shelf.SlGeneric
import Derived.Ground.SlsfProg
import Derived.Test.YtcmjgghkmdbphaaGreatDoorProg
import Derived.Sort.OwnSorted
import Derived.Shelf.SlSortCmp.NoneTotal
set_option maxRecDepth 20000
set_option maxHeartbeats 25600000
namespace Go.Proofs.YtcmjgghkmdbphaaGreatDoor
open Go.RowKit
theorem checkR_iff {r : Rec} : checkR r = 0 ↔ namedK r.kind = true ∧ spareB r (fieldsF r.kind) = true ∧ headBad r (fieldsF r.kind) = false ∧ listsBad r (fieldsF r.kind) = false := by
 unfold checkR recB
 cases namedK r.kind <;> cases spareB r (fieldsF r.kind) <;> cases headBad r (fieldsF r.kind) <;> cases listsBad r (fieldsF r.kind) <;> simp
theorem checkR_kind {r : Rec} (h : checkR r = 0) : 1 ≤ r.kind ∧ r.kind ≤ 11 := by
 have := (checkR_iff.1 h).1
 simpa [namedK] using this
theorem checkR_batch {r : Rec} (h : checkR r = 0) (hk : r.kind = 3 ∨ r.kind = 4) : checkB r.batch = 0 ∧ soundB r.stamp = true := by
 have := (checkR_iff.1 h).2.2.1
 rcases hk with hk | hk <;> (rw [hk] at this; simp [headBad, fieldsF] at this)
 ·exact this
 ·exact this.2
theorem checkR_stamp {r : Rec} (h : checkR r = 0) (hk : r.kind = 5 ∨ r.kind = 6) : soundB r.stamp = true := by
 have := (checkR_iff.1 h).2.2.1
 rcases hk with hk | hk <;> (rw [hk] at this; simp [headBad, fieldsF] at this) <;> exact this.2
theorem checkR_span {r : Rec} (h : checkR r = 0) (hk : r.kind = 9 ∨ r.kind = 10 ∨ r.kind = 11) : 0 ≤ r.range.first ∧ 0 ≤ r.range.last ∧ 0 ≤ r.range.owner ∧ 0 ≤ r.range.epoch := by
 have := (checkR_iff.1 h).2.2.1
 rcases hk with hk | hk | hk <;> (rw [hk] at this; simp [headBad, fieldsF, inW] at this) <;> omega
def lifeS (s : St) (r : Rec) : St × Int := if r.n ≤ s.life then (s, 1) else ({ s with life := r.n }, 0)
def ceilS (s : St) (r : Rec) : St × Int := if r.n ≤ s.ceiling then (s, 1) else ({ s with ceiling := r.n }, 0)
def doS (s : St) (r : Rec) : St × Int :=
 if r.kind = 1 then lifeS s r else if r.kind = 2 then ceilS s r else if r.kind = 3 then commitS s r else if r.kind = 4 then prepareS s r else if r.kind = 5 then decideS s r
 else if r.kind = 6 then outcomeS s r else if r.kind = 7 then forgetS s r else if r.kind = 8 then splitS s r else if r.kind = 9 then freezeS s r else if r.kind = 10 then installS s r else releaseS s r
def applyS (s : St) (r : Rec) : St × Int := if checkR r ≠ 0 then (s, checkR r) else doS s r
def heldD (l : List (Tx × Held)) : Nat := (l.map fun p => sumD p.2.batch.puts).sum
def costR (r : Rec) : Nat := sumD r.batch.puts + (r.streams.map fun s => s.events.length + s.keys.length + 1).sum
structure HeldOk (s : St) (h : Held) : Prop where
 check : checkB h.batch = 0
 firsts : h.firsts = firstsT s.table h.batch.puts
 serves : ∀ p ∈ h.batch.puts, servesS s p.stream = true
 warm : ∀ p ∈ h.batch.puts, ∀ f ∈ s.frozen, f.range.has (hashS p.stream) = false
def Apart (p q : Tx × Held) : Prop := ∀ a ∈ p.2.batch.puts, ∀ b ∈ q.2.batch.puts, a.stream ≠ b.stream
structure Inv (s : St) (N : Nat) : Prop where
 self : 1 ≤ s.self ∧ s.self ≤ s.nodes ∧ s.nodes ≤ 5
 ring : soundR s.ring = true
 tab : s.table.Ok
 size : s.table.length + heldD s.held ≤ N
 evs : ∀ n, (evT s.table n).length + heldD s.held ≤ N
 kys : ∀ n, (kyT s.table n).length + heldD s.held ≤ N
 log : s.log.length + heldD s.held ≤ N
 held : ∀ p ∈ s.held, HeldOk s p.2
 apart : s.held.Pairwise Apart
 nd : (s.held.map (·.1)).Nodup
 frozen : ∀ f ∈ s.frozen, f.range ∈ s.ring ∧ f.range.owner = s.self ∧ f.to ≠ s.self
 fnd : (s.frozen.map Rec.range).Nodup
theorem Inv.mono {s : St} {N M : Nat} (h : Inv s N) (hm : N ≤ M) : Inv s M :=
 { h with size := Nat.le_trans h.size hm, evs := fun n => Nat.le_trans (h.evs n) hm, kys := fun n => Nat.le_trans (h.kys n) hm, log := Nat.le_trans h.log hm }
theorem serves_iff {s : St} (hs : soundR s.ring = true) (n : Str) : servesS s n = true ↔ ∃ x ∈ s.ring, x.has (hashS n) = true ∧ x.owner = s.self := by
 have hb := hashS_bd n
 obtain ⟨a, x, b, hl, hx, _, hf⟩ := at_spec hs hb.1 hb.2
 unfold servesS ofR
 rw [hf]
 simp only [Bool.true_and, decide_eq_true_eq]
 constructor
 ·intro h; exact ⟨x, by rw [hl]; simp, hx, h⟩
 ·rintro ⟨y, hy, h1, h2⟩
  rw [← h2, soundFrom_uniq (sound_iff.1 hs).1 (show x ∈ s.ring by rw [hl]; simp) hy hx h1]
theorem mayP_zero {s : St} {l : List Put} (h : mayP s l = 0) : ∀ p ∈ l, servesS s p.stream = true ∧ busyS s p.stream = false := by
 induction l with
 | nil => simp
 | cons p l ih =>
   unfold mayP at h
   split at h
   ·omega
   ·rename_i h1
    split at h
    ·omega
    ·rename_i h2
     intro q hq
     rcases List.mem_cons.1 hq with rfl | hq
     ·exact ⟨by simpa using h1, by simpa using h2⟩
     ·exact ih h q hq
theorem mayV_zero {T : Tab} {l : List Put} {f : List Int} (h : (mayV T l f).2.2 = 0) : (mayV T l f).1 = f ++ firstsT T l ∧ ∀ p ∈ l, p.expect = -1 ∨ p.expect = versionT T p.stream := by
 induction l generalizing f with
 | nil => simp [mayV, firstsT]
 | cons p l ih =>
   unfold mayV at h ⊢
   split at h
   ·cases h
   ·rename_i hc
    rw [if_neg hc]
    obtain ⟨h1, h2⟩ := ih h
    refine ⟨by rw [h1]; simp [firstsT], fun q hq => ?_⟩
    rcases List.mem_cons.1 hq with rfl | hq
    ·by_cases c : q.expect = -1
     ·exact .inl c
     ·exact .inr (Decidable.byContradiction fun c2 => hc ⟨c, c2⟩)
    ·exact h2 q hq
theorem mayS_zero {s : St} {b : Batch} (h : (mayS s b).2.2 = 0) : checkB b = 0 ∧ (∀ p ∈ b.puts, servesS s p.stream = true ∧ busyS s p.stream = false) ∧ (knownS s b).2.2 = 0 ∧ (mayS s b).1 = firstsT s.table b.puts ∧ ∀ p ∈ b.puts, p.expect = -1 ∨ p.expect = versionT s.table p.stream := by
 unfold mayS at h ⊢
 split at h
 ·rename_i h1; exact absurd h h1
 ·rename_i h1
  rw [if_neg h1]
  split at h
  ·rename_i h2; exact absurd h h2
  ·rename_i h2
   rw [if_neg h2]
   split at h
   ·rename_i h3; exact absurd h h3
   ·rename_i h3
    rw [if_neg h3]
    obtain ⟨h4, h5⟩ := mayV_zero h
    exact ⟨by omega, mayP_zero (by omega), by omega, by simpa using h4, h5⟩
theorem putA_len {κ β : Type} [DecidableEq κ] (k : κ) (v : β) (l : List (κ × β)) : (putA k v l).length ≤ l.length + 1 := by
 induction l with
 | nil => simp [putA]
 | cons p l ih => obtain ⟨x, u⟩ := p; unfold putA; split <;> simp; omega
theorem appendT_len (k : Str) (l : List Event) (T : Tab) : (appendT k l T).1.length ≤ T.length + 1 ∧ ∀ n, (kyT (appendT k l T).1 n).length ≤ (kyT T n).length + 1 := by
 unfold appendT
 cases l with
 | nil => exact ⟨by simp, fun n => by simp⟩
 | cons e l =>
   dsimp only
   split
   ·exact ⟨by simp, fun n => by simp⟩
   ·split
    ·exact ⟨by simp, fun n => by simp⟩
    ·refine ⟨putA_len _ _ _, fun n => ?_⟩
     rw [kyT_put]
     split
     ·rename_i hn; subst hn
      rw [ts_getD]
      unfold addKey
      split
      ·exact putA_len _ _ _
      ·simp
     ·omega
theorem putP_len (k : Str) : ∀ (l : List Put) (E : List Event) (T : Tab), (putP k l E T).length ≤ T.length + l.length ∧ ∀ n, (kyT (putP k l E T) n).length ≤ (kyT T n).length + l.length
 | [], E, T => ⟨by simp [putP], fun n => by simp [putP]⟩
 | p :: l, E, T => by
   obtain ⟨h1, h2⟩ := appendT_len k (E.take p.data.length) T
   obtain ⟨h3, h4⟩ := putP_len k l (E.drop p.data.length) (appendT k (E.take p.data.length) T).1
   unfold putP
   refine ⟨by rw [List.length_cons]; omega, fun n => ?_⟩
   have := h2 n; have := h4 n
   rw [List.length_cons]; omega
theorem fresh_len {T : Tab} (hT : T.Ok) : (freshT T).length = T.length ∧ ∀ n, (kyT (freshT T) n).length = (kyT T n).length := by
 obtain ⟨hL, hO⟩ := fresh_like hashS_bd hT
 refine ⟨?_, fun n => ?_⟩
 ·have := (perm_of_mem hO.nd hT.nd (like_mem hL)).length_eq
  simpa using this
 ·have hn := hL n
  have h1 := ev_ok hO n
  have h2 := ev_ok hT n
  have : ((kyT (freshT T) n).map (·.1)).Perm ((kyT T n).map (·.1)) := by
   refine perm_of_mem h1.2.2.2 h2.2.2.2 fun x => ?_
   have e : getA x (kyT (freshT T) n) = getA x (kyT T n) := by
    unfold kyT
    cases h3 : getA n (freshT T) <;> cases h4 : getA n T <;> rw [h3, h4] at hn
    ·exact hn.elim
    ·exact hn.elim
    ·exact hn.2 x
   cases h : getA x (kyT T n) with
   | none =>
     rw [h] at e
     exact ⟨fun q => absurd q (getA_none.1 e), fun q => absurd q (getA_none.1 h)⟩
   | some y =>
     rw [h] at e
     exact ⟨fun _ => List.mem_map.2 ⟨_, getA_mem h, rfl⟩, fun _ => List.mem_map.2 ⟨_, getA_mem e, rfl⟩⟩
  simpa using this.length_eq
theorem puts_le_sum {l : List Put} (h : ∀ p ∈ l, PutOk p) : l.length ≤ sumD l := by
 induction l with
 | nil => simp
 | cons p l ih =>
   have h1 := ih fun q hq => h q (by simp [hq])
   have h2 : p.data.length ≠ 0 := fun e => (h p (by simp)).full (List.length_eq_zero_iff.1 e)
   simp only [sumD, List.map_cons, List.sum_cons, List.length_cons] at *
   omega
theorem sumD_le {l : List Put} (h : ∀ p ∈ l, PutOk p) : sumD l ≤ 20 * l.length := by
 induction l with
 | nil => simp [sumD]
 | cons p l ih =>
   have h1 := ih fun q hq => h q (by simp [hq])
   have h2 := (h p (by simp)).few
   simp only [sumD, List.map_cons, List.sum_cons, List.length_cons] at *
   omega
structure PutS (s : St) (b : Batch) (st : Stamp) (s' : St) : Prop where
 rest : s' = { s with table := s'.table, log := s'.log }
 ok : s'.table.Ok
 log : s'.log = s.log ++ makeB b (firstsT s.table b.puts) st 0
 evs : ∀ n, evT s'.table n = evT s.table n ++ (makeB b (firstsT s.table b.puts) st 0).filter fun e => decide (e.stream = n)
 knows : ∀ n x, knownT s'.table n x = knowsT s.table b.key st (b.puts.any fun p => decide (p.stream = n)) n x
 size : s'.table.length ≤ s.table.length + b.puts.length
 kys : ∀ n, (kyT s'.table n).length ≤ (kyT s.table n).length + b.puts.length
theorem firsts_like {T T' : Tab} (h : T.Like T') (l : List Put) : firstsT T l = firstsT T' l := List.map_congr_left fun p _ => by rw [TS.Like.version h]
theorem putS_spec {s : St} {b : Batch} {st : Stamp} (hT : s.table.Ok) (hc : checkB b = 0) (hst : soundB st = true) (hv : ∀ n, (evT s.table n).length ≤ 1000000) : PutS s b st (putS s b (firstsT s.table b.puts) st) := by
 obtain ⟨hL, hO⟩ := fresh_like hashS_bd hT
 have hg := checkB_good hc
 have hp := hg.putOk
 have h1 := sumD_le hp
 have h2 := hg.few
 have e := firsts_like hL b.puts
 obtain ⟨a1, a2, a3⟩ := putP_spec (k := b.key) (st := st) hg.key hst b.puts 0 (freshT s.table) hO (checkB_dist hc) hp (fun n => by
  have := hv n
  rw [version_ev, like_ev hL]; omega) (by omega)
 rw [e] at a1 a2 a3
 obtain ⟨l1, l2⟩ := putP_len b.key b.puts (makeB b (firstsT s.table b.puts) st 0) (freshT s.table)
 obtain ⟨f1, f2⟩ := fresh_len hT
 refine ⟨rfl, a1, rfl, fun n => ?_, fun n x => ?_, by show (putP _ _ _ _).length ≤ _; omega, fun n => by have := l2 n; have := f2 n; show (kyT (putP _ _ _ _) n).length ≤ _; omega⟩
 ·show evT (putP _ _ _ _) n = _
  rw [show makeB b (firstsT s.table b.puts) st 0 = makeF b.puts (firstsT s.table b.puts) st 0 0 from rfl, a2, like_ev hL]
 ·show knownT (putP _ _ _ _) n x = _
  rw [show makeB b (firstsT s.table b.puts) st 0 = makeF b.puts (firstsT s.table b.puts) st 0 0 from rfl, a3]
  unfold knowsT
  rw [TS.Like.known hL, TS.Like.known hL, TS.Like.version hL]
end Go.Proofs.YtcmjgghkmdbphaaGreatDoor
namespace Go.Proofs.YtcmjgghkmdbphaaGreatDoor
open Go.RowKit
theorem doS_4 {s : St} {r : Rec} (h : r.kind = 4) : doS s r = prepareS s r := by unfold doS; rw [h]; rfl
theorem doS_5 {s : St} {r : Rec} (h : r.kind = 5) : doS s r = decideS s r := by unfold doS; rw [h]; rfl
theorem decide_out (g : Nat) (s : St) (r : Rec) (nA pA sA : Option Addr) (nc pc sc : Nat) (P Q : Nat → Prop) (w : World) (h : StAt w P g s) (hg : ¬ P g) (hF : Fit s)
 (hr : RecAt w Q r nA nc pA pc sA sc) (hQ : ¬ Q g) (_hl : r.batch.puts.length ≤ 1000000) (_hd : ∀ p ∈ r.batch.puts, p.data.length ≤ 1000000) (hT : Tabs w) (h2 : 2 ≤ g) :
 Calls Tryz.prog 91 #[ptrV g, .agg (r.cells nA nc pA pc sA sc).toArray] w (StOut w P g (decideS s r)) :=
 decide_any g s r nA pA sA nc pc sc P Q w h hg hF hr hQ hT h2
theorem applyK_4 (g : Nat) (s : St) (r : Rec) (nA pA sA : Option Addr) (nc pc sc : Nat) (P Q : Nat → Prop) (w : World) (h : StAt w P g s) (hg : ¬ P g) (hS : Fit s)
 (hr : RecAt w Q r nA nc pA pc sA sc) (hQ : ¬ Q g) (hF : r.Fair) (hT : Tabs w) (h2 : 2 ≤ g) (h3 : r.kind = 4) :
 Calls Tryz.prog 19 #[ptrV g, .agg (r.cells nA nc pA pc sA sc).toArray] w (StOut w P g (applyS s r)) := by
 have hgl := h.lt
 have HH := jh (ja h (ja hg (ja hS (ja hr (ja hQ (ja hF hT))))))
 clear h hg hS hr hQ hF hT
 have hb1 := (jb w.heap.size w).al (.cells (r.cells nA nc pA pc sA sc).toArray 46)
 have B0 := Blk.new w 46 (r.cells nA nc pA pc sA sc)
 have hs1 : (w.alloc (.cells (r.cells nA nc pA pc sA sc).toArray 46)).heap.size = w.heap.size + 1 := by simp
 unfold ptrV
 go_enter Tryz.func19, Tryz.ntmps19
 go_upto_region 1 with fail
 refine forget (M := fun W => Code.wp _ _ _ _ W) (fun W => Below w.heap.size w W ∧ Blk W w.heap.size 46 (r.cells nA nc pA pc sA sc) ∧ W.heap.size = w.heap.size + 1) ⟨hb1, B0, hs1⟩ ?_
 clear B0 hb1 hs1
 rintro w1 ⟨hb1, B0, hs1⟩
 obtain ⟨v, hB, hI⟩ := HH.out.1
 have C1 := gone_any g s.self w1 ((hB.ext hb1).cell 0) HH.out.2.2.1.self
 have C2 := recCheck_any r nA pA sA nc pc sc Q w1 (HH.out.2.2.2.1.ext (js hb1) hb1.size) HH.out.2.2.2.2.2.1 (HH.out.2.2.2.2.2.2.below hb1) (by omega)
 unfold ptrV at C1
 have H1 := jh (ja hb1 hs1)
 clear hB hI hb1
 go_wp2_with fail
 refine C1.mono ?_
 clear C1
 rintro e w' ⟨rfl, rfl⟩
 go_wp2_with (first
  | ((with_reducible refine wpList_load_blk rfl rfl ?_ B0 Tryz.underlying46 rfl (by kernel_rfl) ?_); · rfl)
  | fail)
 refine C2.mono ?_
 clear C2
 rintro e w2 ⟨rfl, hb2⟩
 have B2 := B0.ext hb2
 have hw2 := H1.out.1.tr hb2
 by_cases hc : checkR r = 0
 ·have HC := jh (show applyS s r = prepareS s r from by unfold applyS; rw [if_neg (by rw [hc]; simp)]; exact doS_4 h3)
  rw [hc]
  have x0 : w2.cell? ⟨w.heap.size, 0, none⟩ = some (.int .i64 r.kind) := B2.cell 0
  rw [h3] at x0
  obtain ⟨v, hB, hI⟩ := HH.out.1
  have C3 := prepare_any g s r nA pA sA nc pc sc P (fun k => Q k ∧ k < w.heap.size) w2 ⟨v, hB.ext hw2, hI.same (js hw2)⟩ HH.out.2.1 HH.out.2.2.1
   ((HH.out.2.2.2.1.mono fun k h h' => (⟨h, h'⟩ : Q k ∧ k < w.heap.size)).ext (js hw2) hw2.size) (fun h => HH.out.2.2.2.2.1 h.1) HH.out.2.2.2.2.2.1.puts HH.out.2.2.2.2.2.1.data (HH.out.2.2.2.2.2.2.below hw2) h2
  unfold ptrV at C3
  have H2 := jh hw2
  clear hc hB hI hb2 hw2 B0
  go_wp2_with (first
   | ((with_reducible refine wpList_load_blk rfl rfl ?_ B2 Tryz.underlying46 rfl (by kernel_rfl) ?_); · rfl)
   | fail)
  refine C3.mono ?_
  clear C3 x0 B2
  rintro e w3 ⟨rfl, hst, hO⟩
  have H3 := jh (ja hst hO)
  clear hst hO
  go_wp2_with fail
  go_ret
  unfold StOut
  rw [HC.out]
  obtain ⟨v', a1, a2⟩ := H3.out.1
  exact ⟨rfl, ⟨v', a1, a2.mono fun k hk => by
   rcases hk with h | h
   ·exact .inl h
   ·exact .inr (by have := H2.out.size; omega)⟩, (jo H2.out).tr H3.out.2⟩
 ·have HC := jh (show applyS s r = (s, checkR r) from by unfold applyS; rw [if_pos hc])
  have hc' : (checkR r != 0) = true := bne_iff_ne.2 hc
  obtain ⟨v, hB, hI⟩ := HH.out.1
  have H3 := jh (ja (⟨v, hB.ext hw2, hI.same (js hw2)⟩ : StAt w2 P g s) hw2)
  clear hc hB hI hb2 hw2 B0 B2
  go_wp2_with fail
  go_ret
  unfold StOut
  rw [HC.out]
  obtain ⟨v', a1, a2⟩ := H3.out.1
  exact ⟨rfl, ⟨v', a1, a2.mono fun k hk => .inl hk⟩, jo H3.out.2⟩
theorem applyK_5 (g : Nat) (s : St) (r : Rec) (nA pA sA : Option Addr) (nc pc sc : Nat) (P Q : Nat → Prop) (w : World) (h : StAt w P g s) (hg : ¬ P g) (hS : Fit s)
 (hr : RecAt w Q r nA nc pA pc sA sc) (hQ : ¬ Q g) (hF : r.Fair) (hT : Tabs w) (h2 : 2 ≤ g) (h3 : r.kind = 5) :
 Calls Tryz.prog 19 #[ptrV g, .agg (r.cells nA nc pA pc sA sc).toArray] w (StOut w P g (applyS s r)) := by
 have hgl := h.lt
 have HH := jh (ja h (ja hg (ja hS (ja hr (ja hQ (ja hF hT))))))
 clear h hg hS hr hQ hF hT
 have hb1 := (jb w.heap.size w).al (.cells (r.cells nA nc pA pc sA sc).toArray 46)
 have B0 := Blk.new w 46 (r.cells nA nc pA pc sA sc)
 have hs1 : (w.alloc (.cells (r.cells nA nc pA pc sA sc).toArray 46)).heap.size = w.heap.size + 1 := by simp
 unfold ptrV
 go_enter Tryz.func19, Tryz.ntmps19
 go_upto_region 1 with fail
 refine forget (M := fun W => Code.wp _ _ _ _ W) (fun W => Below w.heap.size w W ∧ Blk W w.heap.size 46 (r.cells nA nc pA pc sA sc) ∧ W.heap.size = w.heap.size + 1) ⟨hb1, B0, hs1⟩ ?_
 clear B0 hb1 hs1
 rintro w1 ⟨hb1, B0, hs1⟩
 obtain ⟨v, hB, hI⟩ := HH.out.1
 have C1 := gone_any g s.self w1 ((hB.ext hb1).cell 0) HH.out.2.2.1.self
 have C2 := recCheck_any r nA pA sA nc pc sc Q w1 (HH.out.2.2.2.1.ext (js hb1) hb1.size) HH.out.2.2.2.2.2.1 (HH.out.2.2.2.2.2.2.below hb1) (by omega)
 unfold ptrV at C1
 have H1 := jh (ja hb1 hs1)
 clear hB hI hb1
 go_wp2_with fail
 refine C1.mono ?_
 clear C1
 rintro e w' ⟨rfl, rfl⟩
 go_wp2_with (first
  | ((with_reducible refine wpList_load_blk rfl rfl ?_ B0 Tryz.underlying46 rfl (by kernel_rfl) ?_); · rfl)
  | fail)
 refine C2.mono ?_
 clear C2
 rintro e w2 ⟨rfl, hb2⟩
 have B2 := B0.ext hb2
 have hw2 := H1.out.1.tr hb2
 by_cases hc : checkR r = 0
 ·have HC := jh (show applyS s r = decideS s r from by unfold applyS; rw [if_neg (by rw [hc]; simp)]; exact doS_5 h3)
  rw [hc]
  have x0 : w2.cell? ⟨w.heap.size, 0, none⟩ = some (.int .i64 r.kind) := B2.cell 0
  rw [h3] at x0
  obtain ⟨v, hB, hI⟩ := HH.out.1
  have C3 := decide_out g s r nA pA sA nc pc sc P (fun k => Q k ∧ k < w.heap.size) w2 ⟨v, hB.ext hw2, hI.same (js hw2)⟩ HH.out.2.1 HH.out.2.2.1
   ((HH.out.2.2.2.1.mono fun k h h' => (⟨h, h'⟩ : Q k ∧ k < w.heap.size)).ext (js hw2) hw2.size) (fun h => HH.out.2.2.2.2.1 h.1) HH.out.2.2.2.2.2.1.puts HH.out.2.2.2.2.2.1.data (HH.out.2.2.2.2.2.2.below hw2) h2
  unfold ptrV at C3
  have H2 := jh hw2
  clear hc hB hI hb2 hw2 B0
  go_wp2_with (first
   | ((with_reducible refine wpList_load_blk rfl rfl ?_ B2 Tryz.underlying46 rfl (by kernel_rfl) ?_); · rfl)
   | fail)
  refine C3.mono ?_
  clear C3 x0 B2
  rintro e w3 ⟨rfl, hst, hO⟩
  have H3 := jh (ja hst hO)
  clear hst hO
  go_wp2_with fail
  go_ret
  unfold StOut
  rw [HC.out]
  obtain ⟨v', a1, a2⟩ := H3.out.1
  exact ⟨rfl, ⟨v', a1, a2.mono fun k hk => by
   rcases hk with h | h
   ·exact .inl h
   ·exact .inr (by have := H2.out.size; omega)⟩, (jo H2.out).tr H3.out.2⟩
 ·have HC := jh (show applyS s r = (s, checkR r) from by unfold applyS; rw [if_pos hc])
  have hc' : (checkR r != 0) = true := bne_iff_ne.2 hc
  obtain ⟨v, hB, hI⟩ := HH.out.1
  have H3 := jh (ja (⟨v, hB.ext hw2, hI.same (js hw2)⟩ : StAt w2 P g s) hw2)
  clear hc hB hI hb2 hw2 B0 B2
  go_wp2_with fail
  go_ret
  unfold StOut
  rw [HC.out]
  obtain ⟨v', a1, a2⟩ := H3.out.1
  exact ⟨rfl, ⟨v', a1, a2.mono fun k hk => .inl hk⟩, jo H3.out.2⟩
end Go.Proofs.YtcmjgghkmdbphaaGreatDoor
namespace Go.Proofs.YtcmjgghkmdbphaaGreatDoor
open Go.RowKit Go.Shelf Go.Sort
instance : Inhabited Tx := ⟨⟨0, 0, 0⟩⟩
def orderT (x y : Tx) : Int := orI [cmpI x.node y.node, cmpI x.life y.life, cmpI x.num y.num]
theorem three_alloc (w : World) (a b c : Obj) : (((w.alloc a).alloc b).drew).alloc c = grow (w.drewN 1) #[a, b, c] := by
 rw [alloc_eq_grow, alloc_eq_grow, alloc_eq_grow, grow_grow]
 show grow (grow w.drew _) _ = _
 rw [grow_grow]
 rfl
theorem int_cells {w : World} {b : Nat} {t : TypeId} {l : List Int} (h : Blk w b t (l.map fun n => .int .i64 n)) (k : Nat) (x : Int) (hk : l[k]? = some x) : w.cell? ⟨b, k, none⟩ = some (.int .i64 x) := by
 rw [h.cell, List.getElem?_map, hk]; rfl
theorem order_any (x y : Tx) (w : World) : Calls Tryz.prog 132 #[.agg (x.cells).toArray, .agg (y.cells).toArray] w fun e w' => e = .returned (.int .i64 (orderT x y)) ∧ ∃ q os', w' = grow (w.drewN q) os' := by
 have BX := (Blk.new w 42 (x.cells)).alloc (.cells (y.cells).toArray 42)
 have BY := Blk.new1 w (.cells (x.cells).toArray 42) 42 (y.cells)
 unfold Tx.cells at *
 go_enter Tryz.func132, Tryz.ntmps132
 go_upto_region 1 with fail
 generalize hw1 : (w.alloc (.cells #[.int .i64 x.node, .int .i64 x.life, .int .i64 x.num] 42)).alloc (.cells #[.int .i64 y.node, .int .i64 y.life, .int .i64 y.num] 42) = w1 at *
 have HW := jh hw1
 clear hw1
 have x0 := On.cell (BX.cell 0 : w1.cell? ⟨w.heap.size, 0, none⟩ = some (.int .i64 x.node))
 have x1 := On.cell (BX.cell 1 : w1.cell? ⟨w.heap.size, 1, none⟩ = some (.int .i64 x.life))
 have x2 := On.cell (BX.cell 2 : w1.cell? ⟨w.heap.size, 2, none⟩ = some (.int .i64 x.num))
 have y0 := On.cell (BY.cell 0 : w1.cell? ⟨w.heap.size + 1, 0, none⟩ = some (.int .i64 y.node))
 have y1 := On.cell (BY.cell 1 : w1.cell? ⟨w.heap.size + 1, 1, none⟩ = some (.int .i64 y.life))
 have y2 := On.cell (BY.cell 2 : w1.cell? ⟨w.heap.size + 1, 2, none⟩ = some (.int .i64 y.num))
 clear BX BY
 have C0 := cmp_any x.node y.node w1.drew
 have C1 := cmp_any x.life y.life w1.drew
 have C2 := cmp_any x.num y.num w1.drew
 refine wp_region_mix (.seg [0, 1, 2, 3, 5, 6, 7, 8, 10, 11, 12, 13] 4 (.seg [] 9 (.seg [] 14 (.seg [] 15 (.seg [] 16 (.leaf [17])))))) (fun w' => ∃ d : Wd (On w1), w' = d.w) (by kernel_rfl) (by kernel_rfl) (fun _ _ d _ _ h => by cases d <;> exact h) (ClsW.mk (jb _ _).drew) ?_
 unfold wpMix; simp only [pick, j1, j2, j3, j4]
 (repeat (show wpQuiet _ _ _ _ (_ :: _) _; go_big_quiet_step (fail))); refine qn ?_
 go_wp2_with fail
 refine C0.mono ?_
 clear C0
 rintro e w' ⟨rfl, rfl⟩
 go_wp2_with fail
 (refine segw (D := On w1) ((jb _ _).drew) ?_; unfold wpMix; simp only [pick, j1, j2, j3, j4]; (repeat (show wpQuiet _ _ _ _ (_ :: _) _; go_big_quiet_step (fail))); refine qn ?_)
 go_wp2_with fail
 refine C1.mono ?_
 clear C1
 rintro e w' ⟨rfl, rfl⟩
 go_wp2_with fail
 (refine segw (D := On w1) ((jb _ _).drew) ?_; unfold wpMix; simp only [pick, j1, j2, j3, j4]; (repeat (show wpQuiet _ _ _ _ (_ :: _) _; go_big_quiet_step (fail))); refine qn ?_)
 go_wp2_with fail
 refine C2.mono ?_
 clear C2
 rintro e w' ⟨rfl, rfl⟩
 go_wp2_with fail
 (refine segw (D := On w1) ((jb _ _).drew) ?_; unfold wpMix; simp only [pick, j1, j2, j3, j4]; (repeat (show wpQuiet _ _ _ _ (_ :: _) _; go_big_quiet_step (fail))); refine qn ?_)
 have C3 := or_any [cmpI x.node y.node, cmpI x.life y.life, cmpI x.num y.num] w1.drew.heap.size 3 (w1.drew.alloc (.cells #[.int .i64 (cmpI x.node y.node), .int .i64 (cmpI x.life y.life), .int .i64 (cmpI x.num y.num)] 3)) (by simp) (int_cells (Blk.new w1.drew 3 _))
 go_wp2_with fail
 (refine segw (D := On w1) ((jb _ _).drew.al _) ?_; unfold wpMix; simp only [pick, j1, j2, j3, j4]; (repeat (show wpQuiet _ _ _ _ (_ :: _) _; go_big_quiet_step (fail))); refine qn ?_)
 go_wp2_with fail
 refine C3.mono ?_
 clear C3
 rintro e w' ⟨rfl, rfl⟩
 go_wp2_with fail
 (refine segw (D := On w1) ((jb _ _).drew.al _) ?_; unfold wpMix; simp only [pick, j1, j2, j3, j4]; (repeat (show wpQuiet _ _ _ _ (_ :: _) _; go_big_quiet_step (fail))); refine qn ?_)
 clear x0 x1 x2 y0 y1 y2
 go_wp2_with fail
 go_ret
 refine ⟨rfl, 1, #[.cells x.cells.toArray 42, .cells y.cells.toArray 42, .cells #[.int .i64 (cmpI x.node y.node), .int .i64 (cmpI x.life y.life), .int .i64 (cmpI x.num y.num)] 3], ?_⟩
 rw [← HW.out]
 exact three_alloc w _ _ _
theorem orI_neg (a b c : Int) : orI [a, b, c] < 0 ↔ a < 0 ∨ (a = 0 ∧ (b < 0 ∨ (b = 0 ∧ c < 0))) := by
 simp only [orI]
 split
 ·split
  ·split <;> omega
  ·omega
 ·omega
theorem cmpI_neg (x y : Int) : (cmpI x y < 0 ↔ x < y) ∧ (cmpI x y = 0 ↔ x = y) := by
 unfold cmpI
 constructor
 ·repeat' split
  all_goals omega
 ·repeat' split
  all_goals omega
theorem ltOf_order (x y : Tx) : ltOf orderT x y = decide (x.node < y.node ∨ (x.node = y.node ∧ (x.life < y.life ∨ (x.life = y.life ∧ x.num < y.num)))) := by
 unfold ltOf orderT
 refine decide_eq_decide.2 ?_
 rw [orI_neg, (cmpI_neg _ _).1, (cmpI_neg _ _).2, (cmpI_neg _ _).1, (cmpI_neg _ _).2, (cmpI_neg _ _).1]
theorem order_swo : SWO (ltOf orderT) where
 irrefl x := by rw [ltOf_order]; simp
 trans x y z h1 h2 := by rw [ltOf_order] at *; simp only [decide_eq_true_eq] at *; omega
 ntrans x y z h1 h2 := by rw [ltOf_order] at *; simp only [decide_eq_false_iff_not] at *; omega
theorem order_lays (blk off size : Nat) (w : World) : CmpLays Tryz.prog 132 #[] Tx.cells 3 orderT blk off size w := fun _ _ _ _ x y => order_any x y _
end Go.Proofs.YtcmjgghkmdbphaaGreatDoor
namespace Go.Proofs
open Go.Shelf
def Tryz.sortTx_ren : Go.Shelf.Ren := ⟨fun | 6 => 222 | 15 => 286 | 14 => 285 | 28 => 319 | 29 => 320 | 20 => 311 | 21 => 312 | 22 => 313 | 23 => 314 | 24 => 315 | 25 => 316 | 26 => 317 | 27 => 318 | 46 => 332 | 47 => 333 | 48 => 334 | 49 => 335 | 50 => 336 | 57 => 342 | n => n, fun | 22 => 62 | 24 => 42 | 25 => 209 | 3 => 3 | 39 => 352 | 0 => 0 | 53 => 288 | 55 => 303 | 4 => 4 | 46 => 372 | 45 => 371 | 50 => 376 | 5 => 5 | 9 => 9 | 66 => 386 | 70 => 180 | 76 => 398 | 77 => 399 | n => n, fun | n => n⟩
theorem Tryz.sortTx : Go.Proofs.SlLaysF0.n6 Tryz.prog Tryz.sortTx_ren := {
 mixed := by kernel_rfl
 f6 := ⟨Tryz.f222.name, by decide, Tryz.func222.trans (congrArg some (by kernel_rfl))⟩
 f14 := ⟨Tryz.f285.name, by decide, Tryz.func285.trans (congrArg some (by kernel_rfl))⟩
 f15 := Tryz.func286.trans (congrArg some (by kernel_rfl))
 f20 := ⟨Tryz.f311.name, by decide, Tryz.func311.trans (congrArg some (by kernel_rfl))⟩
 f21 := ⟨Tryz.f312.name, by decide, Tryz.func312.trans (congrArg some (by kernel_rfl))⟩
 f22 := ⟨Tryz.f313.name, by decide, Tryz.func313.trans (congrArg some (by kernel_rfl))⟩
 f23 := ⟨Tryz.f314.name, by decide, Tryz.func314.trans (congrArg some (by kernel_rfl))⟩
 f24 := ⟨Tryz.f315.name, by decide, Tryz.func315.trans (congrArg some (by kernel_rfl))⟩
 f25 := ⟨Tryz.f316.name, by decide, Tryz.func316.trans (congrArg some (by kernel_rfl))⟩
 f26 := ⟨Tryz.f317.name, by decide, Tryz.func317.trans (congrArg some (by kernel_rfl))⟩
 f27 := ⟨Tryz.f318.name, by decide, Tryz.func318.trans (congrArg some (by kernel_rfl))⟩
 f28 := Tryz.func319.trans (congrArg some (by kernel_rfl))
 f29 := Tryz.func320.trans (congrArg some (by kernel_rfl))
 f46 := ⟨Tryz.f332.name, by decide, Tryz.func332.trans (congrArg some (by kernel_rfl))⟩
 f47 := Tryz.func333.trans (congrArg some (by kernel_rfl))
 f48 := Tryz.func334.trans (congrArg some (by kernel_rfl))
 f49 := ⟨Tryz.f335.name, by decide, Tryz.func335.trans (congrArg some (by kernel_rfl))⟩
 f50 := ⟨Tryz.f336.name, by decide, Tryz.func336.trans (congrArg some (by kernel_rfl))⟩
 f57 := ⟨Tryz.f342.name, by decide, Tryz.func342.trans (congrArg some (by kernel_rfl))⟩
 t0 := Tryz.underlying0
 a0 := Tryz.isAgg0
 z0 := Tryz.sizeOf0
 v0 := Tryz.zeroValue0
 t3 := Tryz.underlying3
 a3 := Tryz.isAgg3
 z3 := Tryz.sizeOf3
 v3 := Tryz.zeroValue3
 t4 := Tryz.underlying4
 a4 := Tryz.isAgg4
 z4 := Tryz.sizeOf4
 v4 := Tryz.zeroValue4
 t5 := Tryz.underlying5
 a5 := Tryz.isAgg5
 z5 := Tryz.sizeOf5
 v5 := Tryz.zeroValue5
 t9 := Tryz.underlying9
 a9 := Tryz.isAgg9
 z9 := Tryz.sizeOf9
 v9 := Tryz.zeroValue9
 t22 := Tryz.underlying62
 a22 := Tryz.isAgg62
 z22 := Tryz.sizeOf62
 v22 := Tryz.zeroValue62
 t25 := Tryz.underlying209
 a25 := Tryz.isAgg209
 z25 := Tryz.sizeOf209
 v25 := Tryz.zeroValue209
 t39 := Tryz.underlying352
 a39 := Tryz.isAgg352
 z39 := Tryz.sizeOf352
 v39 := Tryz.zeroValue352
 t45 := Tryz.underlying371
 a45 := Tryz.isAgg371
 z45 := Tryz.sizeOf371
 v45 := Tryz.zeroValue371
 t46 := Tryz.underlying372
 a46 := Tryz.isAgg372
 z46 := Tryz.sizeOf372
 v46 := Tryz.zeroValue372
 t50 := Tryz.underlying376
 a50 := Tryz.isAgg376
 z50 := Tryz.sizeOf376
 v50 := Tryz.zeroValue376
 t53 := Tryz.underlying288
 a53 := Tryz.isAgg288
 z53 := Tryz.sizeOf288
 v53 := Tryz.zeroValue288
 t55 := Tryz.underlying303
 a55 := Tryz.isAgg303
 z55 := Tryz.sizeOf303
 v55 := Tryz.zeroValue303
 t66 := Tryz.underlying386
 a66 := Tryz.isAgg386
 z66 := Tryz.sizeOf386
 v66 := Tryz.zeroValue386
 t70 := Tryz.underlying180
 a70 := Tryz.isAgg180
 z70 := Tryz.sizeOf180
 v70 := Tryz.zeroValue180
 t76 := Tryz.underlying398
 a76 := Tryz.isAgg398
 z76 := Tryz.sizeOf398
 v76 := Tryz.zeroValue398
 t77 := Tryz.underlying399
 a77 := Tryz.isAgg399
 z77 := Tryz.sizeOf399
 v77 := Tryz.zeroValue399 }
end Go.Proofs
namespace Go.Proofs.YtcmjgghkmdbphaaGreatDoor
open Go.RowKit Go.Shelf Go.Sort
theorem enters_order : ∀ args w, (callFunc 132 args).run Tryz.prog w = .ok (.enter 132 args) w := enters_of Tryz.func132 (by kernel_rfl) rfl
theorem sortTx_any (blk off cap : Nat) (d : Array Tx) (w : World) (hH : HoldsK Tx.cells 3 w blk off d) (hblk : blk < w.heap.size) (hsz : d.size < 4611686018427387904) :
 Calls Tryz.prog 222 #[.slice (some ⟨blk, off, none⟩) d.size cap, .func (.func 132) #[] #[]] w fun e w' =>
  e = .returned (.tuple #[]) ∧ ∃ d' n os, PermIn 0 d.size d d' ∧ SortedIn (ltOf orderT) 0 d.size d' ∧ w' = sortWorldK Tx.cells 3 w blk off n d' os :=
 AnyQ.slices_SortFunc Tryz.sortTx 3 Tryz.isAgg42 Tryz.sizeOf42 Tx.cells (fun _ => rfl) (fun x v hv => by simp [Tx.cells] at hv; rcases hv with rfl | rfl | rfl <;> rfl) orderT order_swo 132 #[] blk off cap d w enters_order (order_lays blk off d.size w) hH hblk hsz
end Go.Proofs.YtcmjgghkmdbphaaGreatDoor
namespace Go.Proofs.YtcmjgghkmdbphaaGreatDoor
open Go.RowKit Go.Shelf Go.Sort
theorem flat_len (ts : List Tx) : (ts.flatMap Tx.cells).length = ts.length * 3 := by
 induction ts with
 | nil => rfl
 | cons t ts ih => rw [List.flatMap_cons, List.length_append, ih]; simp [Tx.cells]; omega
theorem flat_get : ∀ (ts : List Tx) (t : Nat), t < ts.length * 3 → (ts.flatMap Tx.cells)[t]? = some ((ts[t / 3]!).cells[t % 3]!)
 | [], t, h => by simp at h
 | x :: ts, t, h => by
   rw [List.flatMap_cons]
   by_cases h3 : t < 3
   ·rw [List.getElem?_append_left (by simpa [Tx.cells] using h3), Nat.div_eq_of_lt h3, Nat.mod_eq_of_lt h3]
    obtain rfl | rfl | rfl : t = 0 ∨ t = 1 ∨ t = 2 := by omega
    all_goals rfl
   ·have hl : x.cells.length = 3 := rfl
    rw [List.getElem?_append_right (by omega), hl, flat_get ts (t - 3) (by simp at h; omega)]
    obtain ⟨u, rfl⟩ : ∃ u, t = u + 3 := ⟨t - 3, by omega⟩
    rw [Nat.add_sub_cancel, Nat.add_mod_right, Nat.add_div_right u (by decide)]
    simp
theorem flatK_tx (ts : List Tx) : flatK Tx.cells 3 ts.toArray = (ts.flatMap Tx.cells).toArray := by
 apply Array.ext
 ·rw [size_flatK, List.size_toArray, List.size_toArray, flat_len]
 ·intro t h1 h2
  have h : t < ts.length * 3 := by simpa using h1
  have e1 := get_flatK Tx.cells 3 ts.toArray t (by simpa using h)
  have e2 := flat_get ts t h
  rw [getElem!_pos _ t h1] at e1
  rw [e1]
  have e3 : ((ts.flatMap Tx.cells).toArray)[t]? = some ((ts[t / 3]!).cells[t % 3]!) := by simpa using e2
  rw [Array.getElem?_eq_getElem h2] at e3
  rw [Option.some.inj e3]
  simp
theorem holdsK_tx {w : World} {g : Nat} {e : TypeId} {cur : Array Value} {ss : List Tx} (hb : w.heap[g]? = some (.cells cur e (0, 0))) (hc : cur.toList.take (ss.length * 3) = ss.flatMap Tx.cells) : HoldsK Tx.cells 3 w g 0 ss.toArray := by
 intro j hj
 rw [flatK_tx] at hj ⊢
 have hj' : j < ss.length * 3 := by rwa [List.size_toArray, flat_len] at hj
 have h1 : (ss.flatMap Tx.cells)[j]? = cur[j]? := by rw [← hc, List.getElem?_take_of_lt hj', Array.getElem?_toList]
 have h2 := flat_get ss j hj'
 constructor
 ·rw [getElem!_pos _ j hj]
  simp only [Nat.zero_add, World.cell?, hb]
  rw [← h1]
  simp
 ·simp [World.frozen?, hb]
theorem heap_sortedT {w : World} {g n : Nat} {os : Array Obj} {cur : Array Value} {e : TypeId} (F : Array Value) (hb : w.heap[g]? = some (.cells cur e (0, 0))) :
 (grow (putRow id (Sort.ahead w n) g 0 F) os).heap[g]? = some (.cells (putCells id 0 F cur) e (0, 0)) := by
 have hg : g < w.heap.size := (Array.getElem?_eq_some_iff.1 hb).1
 rw [heap_grow_old _ _ (by simpa using hg)]
 simp [putRow, mapBlock, Sort.ahead, Array.getElem?_modify, hb, onCells]
theorem grownBy_sortedT {w : World} {g n : Nat} {os : Array Obj} (F : Array Value) : w.grownBy (grow (putRow id (Sort.ahead w n) g 0 F) os) (some g) := by
 refine ⟨rfl, rfl, rfl, by simp, fun k hk hne => ?_⟩
 rw [heap_grow_old _ _ (by simpa using hk)]
 have : g ≠ k := fun e => hne (by rw [e])
 simp [putRow, mapBlock, Sort.ahead, Array.getElem?_modify, this]
theorem take_putT (cur F : Array Value) (h : F.size ≤ cur.size) : (putCells id 0 F cur).toList.take F.size = F.toList := by
 apply List.ext_getElem?
 intro j
 by_cases hj : j < F.size
 ·rw [List.getElem?_take_of_lt hj, Array.getElem?_toList, Array.getElem?_toList]
  simp [putCells, hj, show j < cur.size by omega]
 ·rw [List.getElem?_take_eq_none (by omega), List.getElem?_eq_none (by simp; omega)]
theorem ownsRow_sortedT {w : World} {base g cap n : Nat} {e : TypeId} {os : Array Obj} {cur : Array Value} {ss ts : List Tx} (hl : ts.length = ss.length) (hbase : base ≤ g) (hb : w.heap[g]? = some (.cells cur e (0, 0)))
 (h1 : ss.length ≤ cap) (h2 : cap ≤ maxLen) (h3 : cur.size = cap * 3) :
 (sortWorldK Tx.cells 3 w g 0 n ts.toArray os).ownsRow base e 3 (.slice (some ⟨g, 0, none⟩) ss.length cap) ss.length (ts.flatMap Tx.cells) ∧ w.grownBy (sortWorldK Tx.cells 3 w g 0 n ts.toArray os) (some g) := by
 unfold sortWorldK putRowK
 rw [flatK_tx]
 have hs : (ts.flatMap Tx.cells).toArray.size = ss.length * 3 := by rw [List.size_toArray, flat_len, hl]
 refine ⟨⟨by rw [flat_len, hl], .inr ⟨g, cap, _, rfl, hbase, heap_sortedT _ hb, h1, h2, by simp [putCells, h3], ?_⟩⟩, grownBy_sortedT _⟩
 rw [← hs]
 exact take_putT cur _ (by rw [hs, h3]; omega)
end Go.Proofs.YtcmjgghkmdbphaaGreatDoor
namespace Go.Proofs.YtcmjgghkmdbphaaGreatDoor
open Go.RowKit Go.Shelf Go.Sort
def GotTxs (B : Nat) (l : List Tx) (e : Ending) (w' : World) : Prop := ∃ (v : Value) (ts : List Tx), e = .returned v ∧ ts.Perm l ∧ w'.ownsRow B 42 3 v ts.length (ts.flatMap Tx.cells)
theorem sortedH_any (bx m : Nat) (ps : List (Tx × Value)) (w : World) (hx : bx < w.heap.size) (hb : w.cell? ⟨bx, 0, none⟩ = some (.map (some m))) (h : MapAt txE w m ps) (hl : ps.length ≤ 1000000) (h0 : ps ≠ []) :
 Calls Tryz.prog 130 #[.func (.func 223) #[] #[.pointer (some ⟨bx, 0, none⟩)], .func (.func 132) #[] #[]] w fun e w' => GotTxs w.heap.size (ps.map (·.1)) e w' ∧ Below w.heap.size w w' := by
 have C1 := collectH_any bx m ps w hx hb h hl
 clear hb h
 go_enter Tryz.func130, Tryz.ntmps130
 go_wp2_with fail
 refine C1.mono ?_
 clear C1
 rintro e w1 ⟨v, ss, rfl, hp, hrow, hnil, hb1⟩
 have hne : v ≠ .slice none 0 0 := fun e => h0 (by
  have := hnil.1 e
  subst this
  have := hp.length_eq
  simp at this
  exact List.eq_nil_of_length_eq_zero this.symm)
 obtain ⟨hrl, ⟨rfl, _⟩ | ⟨g, cap, cur, rfl, hg1, hg2, hg3, hg4, hg5, hg6⟩⟩ := hrow
 ·exact absurd rfl hne
 ·have hgl : g < w1.heap.size := (Array.getElem?_eq_some_iff.1 hg2).1
  have C2 := sortTx_any g 0 cap ss.toArray w1 (holdsK_tx hg2 hg6) hgl (by have := hp.length_eq; simp at this ⊢; omega)
  rw [List.size_toArray] at C2
  have H1 := jh (ja hp (ja hb1 (ja hg1 (ja hg2 (ja hg3 (ja hg4 hg5))))))
  clear hp hnil hb1 hne hrl hg1 hg2 hg3 hg4 hg5 hg6 hgl
  go_wp2_with fail
  refine C2.mono ?_
  clear C2
  rintro e w2 ⟨rfl, d', n, os, hpi, hsi, hw2⟩
  have H2 := jh (ja hpi hw2)
  clear hpi hsi hw2
  go_wp2_with fail
  go_ret
  obtain ⟨hp, hb1, hg1, hg2, hg3, hg4, hg5⟩ := H1.out
  obtain ⟨⟨hz, _, hpm⟩, rfl⟩ := H2.out
  have hl2 : d'.toList.length = ss.length := by simpa using hz
  have hpt : d'.toList.Perm ss := by
   have e1 : d'.extract 0 ss.length = d' := by rw [← hl2, Array.length_toList]; exact Array.extract_size
   have e2 : ss.toArray.extract 0 ss.length = ss.toArray := by rw [← List.size_toArray]; exact Array.extract_size
   rw [e1, e2] at hpm
   simpa using hpm
  have O := ownsRow_sortedT (ts := d'.toList) (n := n) (os := os) hl2 hg1 hg2 hg3 hg4 hg5
  rw [Array.toArray_toList] at O
  exact ⟨⟨_, d'.toList, rfl, hpt.trans hp, by rw [hl2]; exact O.1⟩, hb1.grown O.2 hb1.size (fun k e => by cases e; exact hg1)⟩
end Go.Proofs.YtcmjgghkmdbphaaGreatDoor
namespace Go.Proofs.YtcmjgghkmdbphaaGreatDoor
open Go.RowKit Go.ChangeMaps
set_option maxRecDepth 100000 in
theorem keysNilH_in (F : Fence) (n : Nat) (h10 : F.fn 223) (hro : F.round = none) (l Bm : Nat) (J : List Tx → World → Prop)
 (W : World) (hJ : AbidesFrom W.heap.size J) (hm : W.cell? ⟨Bm, 0, none⟩ = some (.map none)) (h0 : J [] W) :
 CallsIn F n Tryz.prog 223 #[.func (.yield l) #[] #[], .pointer (some ⟨Bm, 0, none⟩)] W fun e W' => (∃ v, e = .returned v) ∧ ∃ xs : List Tx, xs = [] ∧ J xs W' := by
 refine callsIn_of_wp Tryz.func223 rfl h10 ?_ hro
 simp only [Tryz.ntmps223, List.size_toArray, List.length_cons, List.length_nil, Nat.reduceAdd, Nat.reduceSub, Array.replicate_succ, Array.replicate_zero, List.push_toArray, List.append_toArray, List.nil_append, List.cons_append]
 gi_wp2_with (first
  | (gi_at_range; refine wpListIn_range_nil rfl (.tmp 4) 172 rfl Tryz.underlying172 rfl ?_; intro w0 hit0 hb0 hs0)
  | gi_in)
 go_frame
 gi_loopw [3] (fun _ wr => wr = w0) (fun _ _ => 0)
 case atStart => rfl
 case round =>
  obtain rfl := hrel
  gi_wp2_with (first
   | (gi_at_next; refine wpListIn_next_nil rfl (.tmp 5) rfl rfl hit0 ?_)
   | gi_in)
  go_end0
  exact ⟨⟨_, rfl⟩, [], rfl, hJ [] W _ none h0 (below_grown hb0) (fun r e => by cases e)⟩
theorem collectNilH_any (bx : Nat) (w : World) (hx : bx < w.heap.size) (hb : w.cell? ⟨bx, 0, none⟩ = some (.map none)) :
 Calls Tryz.prog 221 #[.func (.func 223) #[] #[.pointer (some ⟨bx, 0, none⟩)]] w fun e w' => e = .returned (.slice none 0 0) ∧ Below w.heap.size w w' := by
 have hseq : SeqGives Fence.wide (5 - 1 - 1) Tryz.prog 223 #[.pointer (some ⟨bx, 0, none⟩)] txE (fun xs : List Tx => xs = []) 0 w := fun l J W hW hJ hY h0 =>
  keysNilH_in Fence.wide _ trivial rfl l bx J W hJ ((hW.cell (p := ⟨bx, 0, none⟩) hx).trans hb) h0
 refine (callsIn_wide.1 (collectT_in Fence.wide 5 trivial trivial rfl (by omega) 223 #[.pointer (some ⟨bx, 0, none⟩)] trivial (enters_of Tryz.func223 (by kernel_rfl) rfl) _ 0 (by omega) w hseq)).mono ?_
 rintro e w' ⟨v, ss, rfl, rfl, _, hnil, hb⟩
 exact ⟨by rw [hnil.2 rfl], hb⟩
end Go.Proofs.YtcmjgghkmdbphaaGreatDoor
namespace Go.Proofs.YtcmjgghkmdbphaaGreatDoor
open Go.RowKit Go.Shelf Go.Sort
theorem sortNone_any (F : Value) (w : World) : Calls Tryz.prog 222 #[.slice none 0 0, F] w fun e w' => e = .returned (.tuple #[]) ∧ w' = w := AnyF.slices_SortFunc_none Tryz.sortTx none 0 F w
theorem collectNoH_any (mb : Option Nat) (w : World) (h : MapV w (.map mb) []) : Calls Tryz.prog 221 #[.func (.func 223) #[] #[.pointer (some ⟨w.heap.size, 0, none⟩)]] (w.alloc (.cells #[.map mb] 172)) fun e w' =>
 e = .returned (.slice none 0 0) ∧ Below (w.alloc (.cells #[.map mb] 172)).heap.size (w.alloc (.cells #[.map mb] 172)) w' := by
 have h1 := h.ext ((jb w.heap.size w).al (.cells #[.map mb] 172))
 have hx : w.heap.size < (w.alloc (.cells #[.map mb] 172)).heap.size := by simp
 have hb : (w.alloc (.cells #[.map mb] 172)).cell? ⟨w.heap.size, 0, none⟩ = some (.map mb) := (Blk.new w 172 [.map mb]).cell 0
 rcases h1 with ⟨e, _⟩ | ⟨m, e, hM⟩
 ·injection e with e
  subst e
  exact collectNilH_any w.heap.size _ hx hb
 ·injection e with e
  subst e
  refine (collectH_any w.heap.size m [] _ hx hb hM (by simp)).mono ?_
  rintro e w' ⟨v, ss, rfl, hp, _, hn, hb'⟩
  have hs : ss = [] := by simpa using hp.length_eq
  exact ⟨by rw [hn.2 hs], hb'⟩
theorem sortedNoH_any (mb : Option Nat) (w : World) (h : MapV w (.map mb) []) : Calls Tryz.prog 130 #[.func (.func 223) #[] #[.pointer (some ⟨w.heap.size, 0, none⟩)], .func (.func 132) #[] #[]] (w.alloc (.cells #[.map mb] 172)) fun e w' =>
 e = .returned (.slice none 0 0) ∧ Below w.heap.size w w' := by
 have C1 := collectNoH_any mb w h
 have hb0 := (jb w.heap.size w).al (.cells #[.map mb] 172)
 clear h
 go_enter Tryz.func130, Tryz.ntmps130
 go_wp2_with fail
 refine C1.mono ?_
 clear C1
 rintro e w1 ⟨rfl, hb1⟩
 have C2 := sortNone_any (.func (.func 132) #[] #[]) w1
 have H := jh (hb0.tr hb1)
 clear hb0 hb1
 go_wp2_with fail
 refine C2.mono ?_
 clear C2
 rintro e w2 ⟨rfl, rfl⟩
 go_wp2_with fail
 go_ret
 exact ⟨rfl, H.out⟩
theorem heldNo_any (g : Nat) (s : St) (P : Nat → Prop) (w : World) (h : StAt w P g s) (hs : s.self ≠ 0) (h0 : s.held = []) : Calls Tryz.prog 41 #[ptrV g] w fun e w' => e = .returned (.slice none 0 0) ∧ Below w.heap.size w w' := by
 obtain ⟨v, hB, hI⟩ := h
 obtain ⟨LA, hMV, _, hl⟩ := hI.held.mapV
 have hLA : LA = [] := by
  rw [h0] at hl
  exact List.map_eq_nil_iff.1 hl.symm
 subst hLA
 have C1 := gone_any g s.self w (hB.cell 0) hs
 have b6 : w.cell? ⟨g, 6, none⟩ = some v.held := hB.cell 6
 obtain ⟨mb, hv⟩ : ∃ mb, v.held = .map mb := by
  rcases hMV with ⟨e, _⟩ | ⟨m, e, _⟩
  ·exact ⟨_, e⟩
  ·exact ⟨_, e⟩
 rw [hv] at b6 hMV
 have C2 := keysH_any mb w
 have C3 := sortedNoH_any mb w hMV
 clear hB hI hMV hv hl h0
 unfold ptrV at C1 ⊢
 go_enter Tryz.func41, Tryz.ntmps41
 go_wp2_with fail
 refine C1.mono ?_
 clear C1
 rintro e w' ⟨rfl, rfl⟩
 go_wp2_with fail
 refine C2.mono ?_
 clear C2 b6
 rintro e w1 ⟨rfl, rfl⟩
 go_wp2_with fail
 refine C3.mono ?_
 clear C3
 rintro e w2 ⟨rfl, hb2⟩
 go_wp2_with fail
 go_loopw [2, 14] (fun o i wr => o = .slice none 0 0 ∧ i = .int .i64 0 ∧ wr = w2) (fun _ _ _ => 0)
 case atStart => exact ⟨rfl, rfl, rfl⟩
 case round =>
  obtain ⟨rfl, rfl, rfl⟩ := hrel
  go_wp2_with fail
  go_ret
  exact ⟨rfl, hb2⟩
end Go.Proofs.YtcmjgghkmdbphaaGreatDoor
namespace Go.Proofs.YtcmjgghkmdbphaaGreatDoor
open Go.RowKit Go.Shelf Go.Sort
theorem OnlyD.cell {F : Nat → Prop} {wx : World} {p : Addr} {u : Value} (h : wx.cell? p = some u) (hF : ¬ F p.block) : ∀ d : Wd (Only F wx), d.w.cell? p = some u := fun d =>
 (World.cell?_of_block (w := wx) (d.ok.block p.block (lt_of_cell h) hF)).trans h
theorem txs_at {w : World} {B e : Nat} {v : Value} {ts : List Tx} (h : w.ownsRow B e 3 v ts.length (ts.flatMap Tx.cells)) {k : Nat} {t : Tx} (hk : ts[k]? = some t) :
 ∃ g c, v = .slice (some ⟨g, 0, none⟩) ts.length c ∧ B ≤ g ∧ g < w.heap.size ∧ w.cell? ⟨g, k * 3, none⟩ = some (.int .i64 t.node) ∧ w.cell? ⟨g, k * 3 + 1, none⟩ = some (.int .i64 t.life) ∧ w.cell? ⟨g, k * 3 + 2, none⟩ = some (.int .i64 t.num) := by
 have hkl := (List.getElem?_eq_some_iff.1 hk).1
 have hk2 := (List.getElem?_eq_some_iff.1 hk).2
 rcases h.2 with ⟨_, h0⟩ | ⟨g, cap, cur, rfl, hB, hg, hn, hc, hs, ht⟩
 ·omega
 ·have hgl := (Array.getElem?_eq_some_iff.1 hg).1
  have key : ∀ j, j < 3 → w.cell? ⟨g, k * 3 + j, none⟩ = t.cells[j]? := fun j hj => by
   have h1 : k * 3 + j < ts.length * 3 := by omega
   have h2 := flat_get ts (k * 3 + j) h1
   rw [show (k * 3 + j) / 3 = k by omega, show (k * 3 + j) % 3 = j by omega, getElem!_pos _ k hkl, hk2] at h2
   have h3 : (ts.flatMap Tx.cells)[k * 3 + j]? = cur[k * 3 + j]? := by
    rw [← ht, List.getElem?_take_of_lt (by first | exact h1 | (rw [flat_len]; exact h1)), Array.getElem?_toList]
   unfold World.cell?
   simp only [hg]
   rw [← h3, h2]
   match j, hj with
   | 0, _ => rfl
   | 1, _ => rfl
   | 2, _ => rfl
  exact ⟨g, cap, rfl, hB, hgl, key 0 (by decide), key 1 (by decide), key 2 (by decide)⟩
theorem held_info : (Tryz.prog.info? 192).map (fun i => (i.zero, i.size, i.bytes)) = some (some (.agg Held.zeros.toArray), 9, 112) := by kernel_rfl
def dftHeld : Held := ⟨⟨0, 0, 0⟩, ⟨⟨#[]⟩, []⟩, ⟨0, 0, 0⟩, []⟩
def heldsOf (s : St) (ts : List Tx) : List Held := ts.map fun t => (getA t s.held).getD dftHeld
theorem heldsOf_perm {s : St} (hn : (s.held.map (·.1)).Nodup) {ts : List Tx} (hp : ts.Perm (s.held.map (·.1))) : (heldsOf s ts).Perm (s.held.map (·.2)) := by
 refine (hp.map _).trans ?_
 rw [List.map_map]
 refine List.Perm.of_eq (List.map_congr_left fun p hp => ?_)
 show (getA p.1 s.held).getD dftHeld = p.2
 rw [getA_of_mem hn hp]; rfl
def GotHelds (s : St) (B : Nat) (e : Ending) (w' : World) : Prop := ∃ v hs, e = .returned v ∧ hs.Perm (s.held.map (·.2)) ∧ HeldR.Own w' B 192 (fun k => B ≤ k) v hs
theorem sheld_any (g : Nat) (s : St) (P : Nat → Prop) (w : World) (h : StAt w P g s) (hs : s.self ≠ 0) (hf : ∀ x ∈ s.held, HeldFit x.2) (hl : s.held.length ≤ 1000000) :
 Calls Tryz.prog 41 #[ptrV g] w fun e w' => GotHelds s w.heap.size e w' ∧ Below w.heap.size w w' := by
 by_cases h0 : s.held = []
 ·refine (heldNo_any g s P w h hs h0).mono ?_
  rintro e w' ⟨rfl, hb⟩
  exact ⟨⟨_, [], rfl, by rw [h0]; exact .nil, Rep.Own.nil_⟩, hb⟩
 obtain ⟨v, hB, hI⟩ := h
 have hnd := hI.held.1
 obtain ⟨LA, hMV, hLr, hll⟩ := hI.held.mapV
 have C1 := gone_any g s.self w (hB.cell 0) hs
 have b6 : w.cell? ⟨g, 6, none⟩ = some v.held := hB.cell 6
 have hLA : LA ≠ [] := fun e => h0 (by rw [hll, e]; rfl)
 obtain ⟨m, hv, hM⟩ : ∃ m, v.held = .map (some m) ∧ MapAt txE w m (LA.map fun p => (p.1, aggV p.2.2)) := by
  rcases hMV with ⟨_, e⟩ | h
  ·exact absurd (List.map_eq_nil_iff.1 e) hLA
  ·exact h
 rw [hv] at b6
 have C2 := keysH_any (some m) w
 have hb1 := (jb w.heap.size w).al (.cells #[.map (some m)] 172)
 have C3 := sortedH_any w.heap.size m _ (w.alloc (.cells #[.map (some m)] 172)) (by simp) ((Blk.new w 172 [.map (some m)]).cell 0) (hM.ext hb1) (by rw [List.length_map]; have := congrArg List.length hll; rw [List.length_map] at this; omega) (fun e => hLA (List.map_eq_nil_iff.1 e))
 have HV := jh (ja hB (ja hMV (ja hLr (ja hll (ja hnd (ja hf (ja hl (ja hb1 hv))))))))
 clear hB hI hMV hLr hll hnd hf hM hb1 h0 hLA hl hv
 unfold GotTxs at C3
 unfold ptrV at C1 ⊢
 go_enter Tryz.func41, Tryz.ntmps41
 go_wp2_with fail
 refine C1.mono ?_
 clear C1
 rintro e w' ⟨rfl, rfl⟩
 go_wp2_with fail
 refine C2.mono ?_
 clear C2 b6
 rintro e w1 ⟨rfl, rfl⟩
 go_wp2_with fail
 refine C3.mono ?_
 clear C3
 rintro e w2 ⟨⟨vt, ts, rfl, hpt, hrow⟩, hb2⟩
 have hpt : ts.Perm (s.held.map (·.1)) := hpt.trans (.of_eq (by rw [HV.out.2.2.2.1, List.map_map, List.map_map]; rfl))
 have htl : ts.length ≤ 1000000 := by have := hpt.length_eq; rw [List.length_map] at this; have := HV.out.2.2.2.2.2.2.1; omega
 have hz1 : (w.alloc (.cells #[.map (some m)] 172)).heap.size = w.heap.size + 1 := by simp
 have hw2 := HV.out.2.2.2.2.2.2.2.1.tr hb2
 obtain ⟨At, ct, rfl⟩ := own_form hrow
 have H2 := jh (ja hpt (ja hrow hw2))
 clear hpt hrow hw2 hb2
 go_wp2_with fail
 go_loopw [2, 14] (fun ov iv wr => ∃ k : Nat, k ≤ ts.length ∧ iv = .int .i64 k ∧ HeldR.Own wr w.heap.size 192 (fun q => w.heap.size ≤ q) ov (heldsOf s (ts.take k)) ∧ Below w2.heap.size w2 wr ∧ (∀ q, ov.ownBlock = some q → w2.heap.size ≤ q)) (fun _ iv _ => ts.length - (intOf iv).toNat)
 case atStart => exact ⟨0, Nat.zero_le _, rfl, by rw [List.take_zero]; exact Rep.Own.nil_, jb _ _, fun q e => by cases e⟩
 case round =>
  obtain ⟨k, hk, rfl, hown, hbl, hoff⟩ := hrel
  obtain ⟨Ao, co, rfl, _⟩ := hown.form
  by_cases hlt : k < ts.length
  ·have hlt' : (k : Int) < ts.length := by omega
   have hlk := jg hlt
   have hts : heldsOf s (ts.take (k + 1)) = heldsOf s (ts.take k) ++ [(getA ts[k] s.held).getD dftHeld] := by
    unfold heldsOf; rw [take_snoc ts k hlt, List.map_append]; rfl
   have hmem : ts[k] ∈ s.held.map (·.1) := H2.out.1.subset (List.getElem_mem hlt)
   obtain ⟨gt, cc, hvt, _, hgt, e0, e1, e2⟩ := txs_at (H2.out.2.1.ext_ hbl) hlk
   generalize ts[k] = t at *
   injection hvt with hA _ hcc
   subst hA hcc
   have hMVr : MapV wr v.held (LA.map fun p => (p.1, aggV p.2.2)) := HV.out.2.1.ext (H2.out.2.2.tr hbl)
   rcases held_of (fun p hp => HeldR.same (HV.out.2.2.1 p hp) (js (H2.out.2.2.tr hbl))) t with ⟨hg0, _⟩ | ⟨h, pA, pc, fA, fc, hgs, hq, k1, k2, k3, k4, k5⟩
   ·exfalso
    rw [← HV.out.2.2.2.1] at hg0
    exact (getA_none.1 hg0) hmem
   rw [← HV.out.2.2.2.1] at hgs
   rw [hgs, Option.getD_some] at hts
   have hfit : HeldFit h := HV.out.2.2.2.2.2.1 _ (getA_mem hgs)
   have hol : (heldsOf s (ts.take k)).length ≤ 1000000 := by unfold heldsOf; rw [List.length_map, List.length_take]; omega
   have y6 : wr.cell? ⟨g, 6, none⟩ = some v.held := (HV.out.1.ext (H2.out.2.2.tr hbl)).cell 6
   rw [HV.out.2.2.2.2.2.2.2.2] at y6
   have HO := jh (ja hown (ja hbl (ja hoff (ja hts (ja k1 (ja k2 (ja k3 (ja k4 (ja k5 hfit)))))))))
   have hMVr : MapV wr (.map (some m)) (LA.map fun p => (p.1, aggV p.2.2)) := by rw [← HV.out.2.2.2.2.2.2.2.2]; exact hMVr
   have HMX := jh hMVr
   clear hmem hlk hown hbl hoff hts k1 k2 k3 k4 k5 hfit hgs hMVr
   go_upto_region 6 with fail
   have hbx := (jb wr.heap.size wr).al (.cells #[.int .i64 t.node, .int .i64 t.life, .int .i64 t.num] 42)
   have BX := Blk.new wr 42 [.int .i64 t.node, .int .i64 t.life, .int .i64 t.num]
   have hzx : (wr.alloc (.cells #[.int .i64 t.node, .int .i64 t.life, .int .i64 t.num] 42)).heap.size = wr.heap.size + 1 := by simp
   have z6 : (wr.alloc (.cells #[.int .i64 t.node, .int .i64 t.life, .int .i64 t.num] 42)).cell? ⟨g, 6, none⟩ = some (.map (some m)) := by
    have := (HV.out.1.ext ((H2.out.2.2.tr HO.out.2.1).tr hbx)).cell 6
    rw [this, ← HV.out.2.2.2.2.2.2.2.2]; rfl
   generalize (wr.alloc (.cells #[.int .i64 t.node, .int .i64 t.life, .int .i64 t.num] 42)) = wx at *
   have hzr := HO.out.2.1.size
   have hz2 := H2.out.2.2.size
   have hgl := HV.out.1.lt
   have hml : m < w.heap.size := by
    rcases HV.out.2.1 with ⟨e, _⟩ | ⟨m', e, hM⟩
    ·rw [HV.out.2.2.2.2.2.2.2.2] at e; cases e
    ·rw [HV.out.2.2.2.2.2.2.2.2] at e
     injection e with e
     injection e with e
     rw [e]; exact hM.lt
   obtain ⟨F, hF⟩ : ∃ F : Nat → Prop, F = fun q => w2.heap.size ≤ q ∧ q ≠ wr.heap.size := ⟨_, rfl⟩
   have HF := jh hF
   have nF1 : ∀ q, q < w2.heap.size → ¬ F q := fun q h1 h2 => by rw [hF] at h2; have := h2.1; omega
   have nF2 : ¬ F wr.heap.size := fun h2 => by rw [hF] at h2; exact h2.2 rfl
   have z6 := OnlyD.cell (F := F) z6 (nF1 _ (by show g < _; omega))
   have x0 := OnlyD.cell (F := F) (BX.cell 0 : wx.cell? ⟨wr.heap.size, 0, none⟩ = some (.int .i64 t.node)) nF2
   have x1 := OnlyD.cell (F := F) (BX.cell 1 : wx.cell? ⟨wr.heap.size, 1, none⟩ = some (.int .i64 t.life)) nF2
   have x2 := OnlyD.cell (F := F) (BX.cell 2 : wx.cell? ⟨wr.heap.size, 2, none⟩ = some (.int .i64 t.num)) nF2
   have hMx := HMX.out.ext hbx
   clear hF
   have HMV := jh (fun (W : World) (hW : ∃ d : Wd (Only F wx), W = d.w) => (show MapV W (.map (some m)) (LA.map fun p => (p.1, aggV p.2.2)) from by
    obtain ⟨d, rfl⟩ := hW
    rcases hMx with ⟨e, _⟩ | ⟨m', e, hM⟩
    ·cases e
    ·injection e with e
     injection e with e
     subst e
     exact .inr ⟨_, rfl, hM.only d.ok (nF1 _ (by omega))⟩))
   have hlo : Only F wx wx.drew := Only.drew
   have HBX := jh hbx
   haveI : Nonempty (Wd (Only F wx)) := ⟨⟨wx, Only.refl _ _⟩⟩
   clear hbx BX y6 e0 e1 e2 hMx
   refine wp_region_mix (.seg [0, 1, 2, 3, 4, 5, 6] 7 (.seg [] 8 (.seg [] 9 (.leaf [10])))) (fun w' => ∃ d : Wd (Only F wx), w' = d.w) (by kernel_rfl) (by kernel_rfl) (fun _ _ d _ _ h => by cases d <;> exact h) (ClsW.mk (D := Only F wx) hlo) ?_
   unfold wpMix; simp only [pick, j1, j2, j3, j4]
   (repeat (show wpQuiet _ _ _ _ (_ :: _) _; first | (refine wpQuiet_lookup_v _ rfl (.tmp 22) (.tmp 23) 172 false rfl Tryz.underlying172 rfl HMV.out t rfl hq _ zero_held ?_; simp only [Bool.false_eq_true, if_false, Option.getD_some]; unfold Held.cellsV; go_simp) | go_big_quiet_step (fail))); refine qn ?_
   have CO := own_any h pA fA pc fc P wx.drew (((HO.out.2.2.2.2.2.2.2.1).2.2.same (js (HBX.out.drew)) HBX.out.drew.size)) (((HO.out.2.2.2.2.2.2.2.2.1).2.2.same (js (HBX.out.drew)) HBX.out.drew.size)) (by have := HO.out.2.2.2.2.2.2.2.2.2.few; omega) (fun p hp => by have := (HO.out.2.2.2.2.2.2.2.2.2.data p hp).1; omega) (by have := HO.out.2.2.2.2.2.2.2.2.2.firsts.1; omega)
   unfold GotHeld Held.cellsV at CO
   go_wp2_with fail
   refine CO.mono ?_
   clear CO
   rintro e w7 ⟨⟨qA, qc, uA, uc, rfl, hq7, hu7⟩, hb7'⟩
   have hb7 : Below wx.heap.size wx w7 := (jb wx.heap.size wx).drew.tr hb7'
   have hzd : wx.drew.heap.size = wx.heap.size := rfl
   have hz7 := hb7.size
   have HO7 := jh (HO.out.1.ext (HBX.out.tr hb7))
   have hH7 : HeldR.rep w7 (fun q => wx.heap.size ≤ q) (Held.cellsV h qA qc uA uc) h := held_rep.2 ⟨qA, qc, uA, uc, rfl, HO.out.2.2.2.2.1, HO.out.2.2.2.2.2.1, HO.out.2.2.2.2.2.2.1, hq7, hu7⟩
   have H7 := jh (ja hH7 hb7)
   have hO7 : Only F wx w7 := jo hb7
   have hO8 : Only F wx (w7.alloc (.cells (Held.cellsV h qA qc uA uc).toArray 192)) := jo (hb7.al _)
   unfold Held.cellsV at hO8
   clear hb7' hq7 hu7 hH7 hb7
   go_wp2_with fail
   (refine segw (D := Only F wx) (hO7) ?_; unfold wpMix; simp only [pick, j1, j2, j3, j4]; (repeat (show wpQuiet _ _ _ _ (_ :: _) _; go_big_quiet_step (fail))); refine qn ?_)
   go_wp2_with fail
   (refine segw (D := Only F wx) (hO8) ?_; unfold wpMix; simp only [pick, j1, j2, j3, j4]; (repeat (show wpQuiet _ _ _ _ (_ :: _) _; go_big_quiet_step (fail))); refine qn ?_)
   obtain ⟨i0, r1, r2, r3, r4⟩ := info_parts held_info
   refine wpList_append_new (R := HeldR) (cs := Held.cellsV h qA qc uA uc) w7 rfl (.tmp 18) (.tmp 26) _ rfl w.heap.size 192 i0 _ 112 Tryz.underlying83 r1 r2 r3 r4 rfl _ (heldsOf s (ts.take k)) (fun q => w.heap.size ≤ q) rfl HO7.out (fun _ h => h) rfl (fun q => wx.heap.size ≤ q) h H7.out.1 (fun q h1 h2 => ⟨by omega, fun e => by
    have h3 := (HO.out.1.lt q e.symm).2
    omega⟩) (by unfold maxLen; omega) (by omega) (by omega) ?_
   intro v8 w8 ho8 hg8 hat8 hne8 hb8'
   have hoff8 : ∀ q, (Value.slice Ao (heldsOf s (List.take k ts)).length co).ownBlock = some q → w2.heap.size ≤ q ∧ q < wr.heap.size := fun q e => ⟨HO.out.2.2.1 q e, (HO.out.1.lt q e).2⟩
   have hbr : Below w2.heap.size w2 w7 := HO.out.2.1.tr (HBX.out.tr H7.out.2)
   have hb9 : Below w2.heap.size w2 w8 := ⟨hg8.os.trans hbr.os, hg8.tape.trans hbr.tape, hg8.output.trans hbr.output, Nat.le_trans hbr.size hg8.size, fun q hq => (hg8.block q (by omega) (fun e => by have := (hoff8 q e.symm).1; omega)).trans (hbr.block q hq)⟩
   have hO9 : Only F wx w8 := (jo H7.out.2).tr (Only.grown hg8 fun q e => by
    rw [HF.out]; have := hoff8 q e; exact ⟨this.1, by omega⟩)
   obtain ⟨A8, c8, rfl, _⟩ := ho8.form
   have hl8 : (heldsOf s (List.take k ts) ++ [h]).length = (heldsOf s (List.take k ts)).length + 1 := by simp
   rw [hl8] at ho8 hat8 ⊢
   have H8 := jh (ja ho8 (ja hb9 hat8))
   clear hl8
   clear ho8 hg8 hne8 hb8' hb9 hoff8 hbr r1 r2 r3 r4
   go_simp
   (refine segw (D := Only F wx) (hO9) ?_; unfold wpMix; simp only [pick, j1, j2, j3, j4]; (repeat (show wpQuiet _ _ _ _ (_ :: _) _; go_big_quiet_step (fail))); refine qn ?_)
   clear z6 x0 x1 x2 hO7 hO8 hO9 hlo
   go_wp2_with fail
   go_round
   case rel => exact ⟨k + 1, by omega, by go_num, by rw [HO.out.2.2.2.1]; exact H8.out.1, H8.out.2.1, fun q e => by
    rcases H8.out.2.2 with h | h
    ·rw [h] at e; exact HO.out.2.2.1 q e
    ·rw [h] at e; injection e with e; omega⟩
   case measure => simp [intOf]; omega
  ·have hkn : k = ts.length := by omega
   subst hkn
   rw [List.take_length] at hown ⊢
   have HO := jh (ja hown hbl)
   clear hown hbl hoff
   go_wp2_with fail
   go_ret
   exact ⟨⟨_, _, rfl, heldsOf_perm HV.out.2.2.2.2.1 H2.out.1, HO.out.1⟩, H2.out.2.2.tr HO.out.2⟩
end Go.Proofs.YtcmjgghkmdbphaaGreatDoor
