/- A runner for closed calls, part 2: Yb Yc Yd Ye. -/
import Derived.Test.YtmeegolgabhnpaaGreatDoorKra
import Derived.Below
import Derived.Laws.Sem
import Derived.Laws.Cells
namespace Go.Proofs.YtmeegolgabhnpaaGreatDoor.X
open Go.RowKit

def VRels (ρ : Ren) (e e' : MapEntry) : Prop := VRel ρ e.key e'.key ∧ VRel ρ e.val e'.val ∧ e'.born = e.born
inductive ERel (ρ : Ren) : List MapEntry → List MapEntry → Prop
  | nil : ERel ρ [] []
  | cons (e e' : MapEntry) (l l' : List MapEntry) (h : VRels ρ e e') (t : ERel ρ l l') : ERel ρ (e :: l) (e' :: l')
def MRel (ρ : Ren) : Option Nat → Option Nat → Prop
  | none, m => m = none
  | some r, m => ∃ l, ρ r = some l ∧ m = some l.blk
structure LoopRel (ρ : Ren) (r r' : Loop) : Prop where
  state : r'.state = r.state
  pending : r'.pending = r.pending
  fn : r'.fn = r.fn
  params : r'.params = r.params
  assign : r'.assign = r.assign
  body : r'.body = r.body
  tmps : LRel ρ r.tmps.toList r'.tmps.toList
  defers : ∃ l, ρ r.defers = some l ∧ r'.defers = l.blk
def OORel (ρ : Ren) : Obj → Obj → Prop
  | .map es c, o => ∃ es', o = .map ⟨es'⟩ c ∧ ERel ρ es.toList es'
  | .mapIter m a seen st, o => ∃ m', MRel ρ m m' ∧ o = .mapIter m' a seen st
  | .stringIter b p, o => o = .stringIter b p
  | .loop r, o => ∃ r', o = .loop r' ∧ LoopRel ρ r r'
  | .deferred none, o => o = .deferred none
  | .deferred (some []), o => o = .deferred (some [])
  | _, _ => False
def RowRel (P : Program) (ρ : Ren) (l : Loc) (cs : List Value) (e : TypeId) (loose : Bool) (c : Array Value) (fz : Nat × Nat) : Prop :=
  (∀ j, j < c.size → ¬ (fz.1 ≤ j ∧ j < fz.2)) ∧ l.sh + cs.length ≤ c.size ∧ (∀ (j : Nat) (v : Value), cs[j]? = some v → ∃ v', c[l.sh + j]? = some v' ∧ VRel ρ v v') ∧
  (loose = true → ∀ n, szT P e = some n → cs.length ≤ l.cap * n ∧ l.sh + l.cap * n ≤ c.size)
def ORel (P : Program) (ρ : Ren) (l : Loc) : AO → Obj → Prop
  | .row cs e loose, o => ∃ c fz, o = .cells c e fz ∧ RowRel P ρ l cs e loose c fz
  | .obj o1, o => l.sh = 0 ∧ OORel ρ o1 o
  | .tab cs, o => ∃ c e fz, o = .cells c e fz ∧ ∀ (j : Nat) (v : Value), cs[j]? = some v → ∃ v', c[l.sh + j]? = some v' ∧ VRel ρ v v'
  | .dead, _ => True

theorem VRels.mono {ρ ρ' : Ren} (k : ρ.Le ρ') {e e' : MapEntry} (h : VRels ρ e e') : VRels ρ' e e' := ⟨h.1.mono k, h.2.1.mono k, h.2.2⟩
theorem ERel.mono {ρ ρ' : Ren} (k : ρ.Le ρ') : ∀ {l l' : List MapEntry}, ERel ρ l l' → ERel ρ' l l'
  | _, _, .nil => .nil
  | _, _, .cons e e' l l' h t => .cons e e' l l' (h.mono k) (ERel.mono k t)
theorem MRel.mono {ρ ρ' : Ren} (k : ρ.Le ρ') : ∀ {m m' : Option Nat}, MRel ρ m m' → MRel ρ' m m'
  | none, _, h => h
  | some _, _, ⟨l, h1, h2⟩ => ⟨l, k _ _ h1, h2⟩
theorem LoopRel.mono {ρ ρ' : Ren} (k : ρ.Le ρ') {r r' : Loop} (h : LoopRel ρ r r') : LoopRel ρ' r r' :=
  { h with tmps := h.tmps.mono k, defers := let ⟨l, h1, h2⟩ := h.defers; ⟨l, k _ _ h1, h2⟩ }
theorem OORel.mono {ρ ρ' : Ren} (k : ρ.Le ρ') {o o' : Obj} (h : OORel ρ o o') : OORel ρ' o o' := by
  cases o with
  | map es c => obtain ⟨x, h1, h2⟩ := h; exact ⟨x, h1, h2.mono k⟩
  | mapIter m a b c => obtain ⟨x, h1, h2⟩ := h; exact ⟨x, h1.mono k, h2⟩
  | stringIter b p => exact h
  | loop r => obtain ⟨x, h1, h2⟩ := h; exact ⟨x, h1, h2.mono k⟩
  | deferred d => cases d with
    | none => exact h
    | some l => cases l <;> exact h
  | _ => exact h
theorem RowRel.mono {P : Program} {ρ ρ' : Ren} (k : ρ.Le ρ') {l : Loc} {cs : List Value} {e : TypeId} {lo : Bool} {c : Array Value} {fz : Nat × Nat} (h : RowRel P ρ l cs e lo c fz) : RowRel P ρ' l cs e lo c fz :=
  ⟨h.1, h.2.1, fun j v hj => let ⟨v', h1, h2⟩ := h.2.2.1 j v hj; ⟨v', h1, h2.mono k⟩, h.2.2.2⟩
theorem ORel.mono {P : Program} {ρ ρ' : Ren} (k : ρ.Le ρ') {l : Loc} {o : AO} {o' : Obj} (h : ORel P ρ l o o') : ORel P ρ' l o o' := by
  cases o with
  | row cs e lo => obtain ⟨c, fz, h1, h2⟩ := h; exact ⟨c, fz, h1, h2.mono k⟩
  | obj o => exact ⟨h.1, OORel.mono k h.2⟩
  | tab cs => obtain ⟨c, e, fz, h1, h2⟩ := h; exact ⟨c, e, fz, h1, fun j v hj => let ⟨v', h3, h4⟩ := h2 j v hj; ⟨v', h3, h4.mono k⟩⟩
  | dead => trivial

structure Base where
  G : Nat
  B : Nat
  w0 : World
  val : Nat
structure WRel (P : Program) (b : Base) (ρ : Ren) (s : St) (w : World) : Prop where
  heap : ∀ i o l, s.heap.get i = some o → o ≠ .dead → ρ i = some l → ∃ o', w.heap[l.blk]? = some o' ∧ ORel P ρ l o o'
  inj : ∀ i j o o' l l', i ≠ j → s.heap.get i = some o → o ≠ .dead → s.heap.get j = some o' → o' ≠ .dead → ρ i = some l → ρ j = some l' → l.blk ≠ l'.blk
  dom : ∀ i l, ρ i = some l → i < s.next
  fresh : ∀ i, s.next ≤ i → s.heap.get i = none
  low : ∀ i l, b.G ≤ i → ρ i = some l → b.B ≤ l.blk
  glob : ∀ g, g < b.G → ρ g = some ⟨g, if g + 1 = b.G then b.val else 0, 0⟩
  base : b.G ≤ s.next
  size : b.B ≤ w.heap.size
  below : Below b.B b.w0 w
def setBlk (w : World) (g : Nat) (o : Obj) : World := { w with heap := w.heap.setIfInBounds g o }

section
variable {P : Program} {b : Base} {ρ ρ' : Ren} {s s' : St} {w w' : World}
theorem WRel.globU (h : WRel P b ρ s w) {g : Nat} (hg : g + 1 < b.G) : ρ g = some ⟨g, 0, 0⟩ := by
  rw [h.glob g (by omega), if_neg (by omega)]
structure Ok (P : Program) (b : Base) (ρ : Ren) (s : St) (ρ' : Ren) (s' : St) (w' : World) : Prop where
  ext : ∀ i, i < s.next → ρ' i = ρ i
  next : s.next ≤ s'.next
  pend : ∀ i, i < s.next → ρ i = none → s'.heap.get i = s.heap.get i
  rel : WRel P b ρ' s' w'
theorem Ok.refl (h : WRel P b ρ s w) : Ok P b ρ s ρ s w := ⟨fun _ _ => rfl, Nat.le_refl _, fun _ _ _ => rfl, h⟩
theorem Ok.trans {ρ'' : Ren} {s'' : St} {w'' : World} (h : Ok P b ρ s ρ' s' w') (k : Ok P b ρ' s' ρ'' s'' w'') : Ok P b ρ s ρ'' s'' w'' :=
  ⟨fun i hi => (k.ext i (Nat.lt_of_lt_of_le hi h.next)).trans (h.ext i hi), Nat.le_trans h.next k.next,
    fun i hi hn => (k.pend i (Nat.lt_of_lt_of_le hi h.next) ((h.ext i hi).trans hn)).trans (h.pend i hi hn), k.rel⟩
theorem Ok.le (h : Ok P b ρ s ρ' s' w') (hw : WRel P b ρ s w) : ρ.Le ρ' := fun i l e => (h.ext i (hw.dom i l e)).trans e

theorem heap_setBlk (w : World) (g k : Nat) (o : Obj) : (setBlk w g o).heap[k]? = if g = k then (if g < w.heap.size then some o else none) else w.heap[k]? := by
  simp only [setBlk, Array.getElem?_setIfInBounds]
theorem upd_self (ρ : Ren) (i : Nat) (l : Loc) : (ρ.upd i l) i = some l := by simp [Ren.upd]
theorem upd_ne (ρ : Ren) {i j : Nat} (l : Loc) (h : j ≠ i) : (ρ.upd i l) j = ρ j := by simp [Ren.upd, h]
theorem upd_le (h : WRel P b ρ s w) (l : Loc) : ρ.Le (ρ.upd s.next l) := fun i k e => by
  have := h.dom i k e
  rw [upd_ne _ _ (by omega)]; exact e

/-- What lies at an id turns. -/
theorem WRel.set (h : WRel P b ρ s w) {i : Nat} {l : Loc} {o : AO} {o1 : AO} {o' : Obj} (hi : s.heap.get i = some o) (hd : o ≠ .dead) (hl : ρ i = some l) (hG : b.G ≤ i) (ho : ORel P ρ l o1 o') :
    Ok P b ρ s ρ { heap := s.heap.set i o1, next := s.next } (setBlk w l.blk o') := by
  obtain ⟨x, hx, _⟩ := h.heap i o l hi hd hl
  have hlt : l.blk < w.heap.size := (Array.getElem?_eq_some_iff.1 hx).1
  have hB := h.low i l hG hl
  refine ⟨fun _ _ => rfl, Nat.le_refl _, fun j _ hn => ?_, ?_⟩
  · dsimp only
    rw [Tr.get_set, if_neg]
    rintro rfl
    rw [hl] at hn; cases hn
  · refine ⟨fun j p k hj hp hk => ?_, fun j j' p p' k k' hne hj hp hj' hp' hk hk' => ?_, h.dom, fun j hj => ?_, h.low, h.glob, h.base, ?_, ?_⟩
    · dsimp only at hj
      rw [Tr.get_set] at hj
      rw [heap_setBlk]
      by_cases he : j = i
      · subst he
        rw [if_pos rfl] at hj
        rw [hl] at hk
        injection hj with hj; injection hk with hk
        subst hj; subst hk
        rw [if_pos rfl, if_pos hlt]
        exact ⟨o', rfl, ho⟩
      · rw [if_neg he] at hj
        rw [if_neg (fun e => h.inj j i p o k l he hj hp hi hd hk hl e.symm)]
        exact h.heap j p k hj hp hk
    · dsimp only at hj hj'
      rw [Tr.get_set] at hj hj'
      have key : ∀ j p, (if j = i then some o1 else s.heap.get j) = some p → p ≠ .dead → ∃ q, s.heap.get j = some q ∧ q ≠ .dead := fun j p hj hp => by
        by_cases he : j = i
        · subst he; exact ⟨o, hi, hd⟩
        · rw [if_neg he] at hj; exact ⟨p, hj, hp⟩
      obtain ⟨q, h1, h2⟩ := key j p hj hp
      obtain ⟨q', h3, h4⟩ := key j' p' hj' hp'
      exact h.inj j j' q q' k k' hne h1 h2 h3 h4 hk hk'
    · dsimp only
      rw [Tr.get_set, if_neg]
      · exact h.fresh j hj
      · rintro rfl
        exact absurd (h.dom _ _ hl) (by dsimp only at hj; omega)
    · simp [setBlk]; exact h.size
    · refine ⟨h.below.os, h.below.tape, h.below.output, by simp [setBlk]; exact h.below.size, fun k hk => ?_⟩
      rw [heap_setBlk, if_neg (by omega)]
      exact h.below.block k hk
/-- A new block. -/
theorem WRel.new (h : WRel P b ρ s w) (cap : Nat) {o1 : AO} {o' : Obj} (ho : ∀ ρ', ρ.Le ρ' → ρ' s.next = some ⟨w.heap.size, 0, cap⟩ → ORel P ρ' ⟨w.heap.size, 0, cap⟩ o1 o') :
    Ok P b ρ s (ρ.upd s.next ⟨w.heap.size, 0, cap⟩) { heap := s.heap.set s.next o1, next := Nat.succ s.next } (w.alloc o') := by
  have hle := upd_le h ⟨w.heap.size, 0, cap⟩
  have hup := upd_self ρ s.next ⟨w.heap.size, 0, cap⟩
  refine ⟨fun i hi => upd_ne _ _ (by omega), Nat.le_succ _, fun i hi _ => ?_, ?_⟩
  · dsimp only
    rw [Tr.get_set, if_neg (by omega)]
  · have hold : ∀ i l, ρ i = some l → ∀ o, s.heap.get i = some o → o ≠ .dead → l.blk < w.heap.size := fun i l hl o hi hd => by
      obtain ⟨x, hx, _⟩ := h.heap i o l hi hd hl
      exact (Array.getElem?_eq_some_iff.1 hx).1
    refine ⟨fun j p k hj hp hk => ?_, fun j j' p p' k k' hne hj hp hj' hp' hk hk' => ?_, fun i l hl => ?_, fun i hi => ?_, fun i l hi hl => ?_, fun g hg => ?_, ?_, ?_, ?_⟩
    · dsimp only at hj
      rw [Tr.get_set] at hj
      by_cases he : j = s.next
      · subst he
        rw [if_pos rfl] at hj
        rw [hup] at hk
        injection hj with hj; injection hk with hk
        subst hj; subst hk
        exact ⟨o', heap_alloc_new w o', ho _ hle hup⟩
      · rw [if_neg he] at hj
        rw [upd_ne _ _ he] at hk
        obtain ⟨x, hx, hr⟩ := h.heap j p k hj hp hk
        exact ⟨x, (Below.heap_alloc w o' _ (hold j k hk p hj hp)).trans hx, hr.mono hle⟩
    · dsimp only at hj hj'
      rw [Tr.get_set] at hj hj'
      by_cases he : j = s.next
      · subst he
        rw [hup] at hk
        injection hk with hk
        subst hk
        have hne' : j' ≠ s.next := fun e => hne e.symm
        rw [if_neg hne'] at hj'
        rw [upd_ne _ _ hne'] at hk'
        have := hold j' k' hk' p' hj' hp'
        dsimp only; omega
      · rw [if_neg he] at hj
        rw [upd_ne _ _ he] at hk
        by_cases he' : j' = s.next
        · subst he'
          rw [hup] at hk'
          injection hk' with hk'
          subst hk'
          have := hold j k hk p hj hp
          dsimp only; omega
        · rw [if_neg he'] at hj'
          rw [upd_ne _ _ he'] at hk'
          exact h.inj j j' p p' k k' hne hj hp hj' hp' hk hk'
    · by_cases he : i = s.next
      · subst he; exact Nat.lt_succ_self _
      · rw [upd_ne _ _ he] at hl; exact Nat.lt_succ_of_lt (h.dom i l hl)
    · dsimp only at hi ⊢
      rw [Tr.get_set, if_neg (by omega)]
      exact h.fresh i (by omega)
    · by_cases he : i = s.next
      · subst he; rw [hup] at hl; injection hl with hl; subst hl; exact h.size
      · rw [upd_ne _ _ he] at hl; exact h.low i l hi hl
    · rw [upd_ne _ _ (by have := h.base; omega)]; exact h.glob g hg
    · exact Nat.le_succ_of_le h.base
    · have := h.size; simp; omega
    · exact h.below.alloc h.size o'
/-- A block is known no more. -/
theorem WRel.kill (h : WRel P b ρ s w) {i : Nat} (hi : i < s.next) : WRel P b ρ { heap := s.heap.set i .dead, next := s.next } w := by
  have key : ∀ j p, (s.heap.set i .dead).get j = some p → p ≠ .dead → s.heap.get j = some p := fun j p hj hp => by
    rw [Tr.get_set] at hj
    by_cases he : j = i
    · rw [if_pos he] at hj; injection hj with hj; exact absurd hj.symm hp
    · rw [if_neg he] at hj; exact hj
  refine ⟨fun j p k hj hp hk => h.heap j p k (key j p hj hp) hp hk, fun j j' p p' k k' hne hj hp hj' hp' hk hk' => h.inj j j' p p' k k' hne (key j p hj hp) hp (key j' p' hj' hp') hp' hk hk', h.dom, fun j hj => ?_, h.low, h.glob, h.base, h.size, h.below⟩
  dsimp only at hj ⊢
  rw [Tr.get_set, if_neg (by omega)]
  exact h.fresh j hj
/-- A block is gone on with under another id, from a place in it on. -/
theorem WRel.move (h : WRel P b ρ s w) {i : Nat} {l : Loc} {o : AO} {o1 : AO} {o' : Obj} (hi : s.heap.get i = some o) (hd : o ≠ .dead) (hl : ρ i = some l) (hG : b.G ≤ i) (sh cap : Nat)
    (ho : ∀ ρ', ρ.Le ρ' → ρ' s.next = some ⟨l.blk, sh, cap⟩ → ORel P ρ' ⟨l.blk, sh, cap⟩ o1 o') :
    Ok P b ρ s (ρ.upd s.next ⟨l.blk, sh, cap⟩) { heap := (s.heap.set i .dead).set s.next o1, next := Nat.succ s.next } (setBlk w l.blk o') := by
  have hle := upd_le h ⟨l.blk, sh, cap⟩
  have hup := upd_self ρ s.next ⟨l.blk, sh, cap⟩
  obtain ⟨x, hx, _⟩ := h.heap i o l hi hd hl
  have hlt : l.blk < w.heap.size := (Array.getElem?_eq_some_iff.1 hx).1
  have hB := h.low i l hG hl
  have hin := h.dom i l hl
  have key : ∀ j p, j ≠ s.next → ((s.heap.set i .dead).set s.next o1).get j = some p → p ≠ .dead → s.heap.get j = some p ∧ j ≠ i := fun j p hn hj hp => by
    rw [Tr.get_set, if_neg hn, Tr.get_set] at hj
    by_cases he : j = i
    · rw [if_pos he] at hj; injection hj with hj; exact absurd hj.symm hp
    · rw [if_neg he] at hj; exact ⟨hj, he⟩
  refine ⟨fun i hi => upd_ne _ _ (by omega), Nat.le_succ _, fun j hj hn => ?_, ?_⟩
  · dsimp only
    rw [Tr.get_set, if_neg (by omega), Tr.get_set, if_neg]
    rintro rfl
    rw [hl] at hn; cases hn
  · refine ⟨fun j p k hj hp hk => ?_, fun j j' p p' k k' hne hj hp hj' hp' hk hk' => ?_, fun i l hl => ?_, fun i hi => ?_, fun i l hi hl => ?_, fun g hg => ?_, ?_, ?_, ?_⟩
    · dsimp only at hj
      rw [heap_setBlk]
      by_cases he : j = s.next
      · subst he
        rw [Tr.get_set, if_pos rfl] at hj
        rw [hup] at hk
        injection hj with hj; injection hk with hk
        subst hj; subst hk
        rw [if_pos rfl, if_pos hlt]
        exact ⟨o', rfl, ho _ hle hup⟩
      · obtain ⟨h1, h2⟩ := key j p he hj hp
        rw [upd_ne _ _ he] at hk
        rw [if_neg (fun e => h.inj j i p o k l h2 h1 hp hi hd hk hl e.symm)]
        obtain ⟨x, hx, hr⟩ := h.heap j p k h1 hp hk
        exact ⟨x, hx, hr.mono hle⟩
    · dsimp only at hj hj'
      by_cases he : j = s.next
      · subst he
        rw [hup] at hk
        injection hk with hk
        subst hk
        have hne' : j' ≠ s.next := fun e => hne e.symm
        obtain ⟨h1, h2⟩ := key j' p' hne' hj' hp'
        rw [upd_ne _ _ hne'] at hk'
        exact h.inj i j' o p' l k' (fun e => h2 e.symm) hi hd h1 hp' hl hk'
      · obtain ⟨h1, h2⟩ := key j p he hj hp
        rw [upd_ne _ _ he] at hk
        by_cases he' : j' = s.next
        · subst he'
          rw [hup] at hk'
          injection hk' with hk'
          subst hk'
          exact h.inj j i p o k l h2 h1 hp hi hd hk hl
        · obtain ⟨h3, h4⟩ := key j' p' he' hj' hp'
          rw [upd_ne _ _ he'] at hk'
          exact h.inj j j' p p' k k' hne h1 hp h3 hp' hk hk'
    · by_cases he : i = s.next
      · subst he; exact Nat.lt_succ_self _
      · rw [upd_ne _ _ he] at hl; exact Nat.lt_succ_of_lt (h.dom i l hl)
    · dsimp only at hi ⊢
      rw [Tr.get_set, if_neg (by omega), Tr.get_set, if_neg (by omega)]
      exact h.fresh i (by omega)
    · by_cases he : i = s.next
      · subst he; rw [hup] at hl; injection hl with hl; subst hl; exact hB
      · rw [upd_ne _ _ he] at hl; exact h.low i l hi hl
    · rw [upd_ne _ _ (by have := h.base; omega)]; exact h.glob g hg
    · exact Nat.le_succ_of_le h.base
    · simp [setBlk]; exact h.size
    · refine ⟨h.below.os, h.below.tape, h.below.output, by simp [setBlk]; exact h.below.size, fun k hk => ?_⟩
      rw [heap_setBlk, if_neg (by omega)]
      exact h.below.block k hk

theorem WRel.drew (h : WRel P b ρ s w) : WRel P b ρ s { w with drawn := w.drawn + 1 } :=
  ⟨h.heap, h.inj, h.dom, h.fresh, h.low, h.glob, h.base, h.size, ⟨h.below.os, h.below.tape, h.below.output, h.below.size, h.below.block⟩⟩
end
end Go.Proofs.YtmeegolgabhnpaaGreatDoor.X

namespace Go.Proofs.YtmeegolgabhnpaaGreatDoor.X
open Go.RowKit

section
variable {P : Program} {b : Base} {ρ : Ren} {s : St} {w : World}

theorem xu {t : TypeId} {d : TypeDesc} (h : P.underlying t = some d) (w : World) : (underlying t).run P w = .ok d w := by
  simp [underlying, h]
theorem xi {t : TypeId} {i : TypeInfo} (h : P.info? t = some i) (w : World) : (typeInfo t).run P w = .ok i w := by
  simp [typeInfo, h]
theorem xs {t : TypeId} {n : Nat} (h : szT P t = some n) (w : World) : (sizeOf t).run P w = .ok n w := by
  unfold szT at h
  cases hi : P.info? t with
  | none => rw [hi] at h; cases h
  | some i => rw [hi] at h; injection h with h; simp [sizeOf, xi hi, ← h]
theorem xz {t : TypeId} {z : Value} (h : zeroT P t = some z) (w : World) : (zeroValue t).run P w = .ok z w ∧ flat z = true := by
  unfold zeroT at h
  cases hi : P.info? t with
  | none => rw [hi] at h; cases h
  | some i =>
    rw [hi] at h
    cases hz : i.zero with
    | none => simp [hz] at h
    | some z' =>
      simp only [Option.bind_some, hz] at h
      cases hf : flat z' with
      | false => rw [hf] at h; cases h
      | true => rw [hf] at h; injection h with h; subst h; exact ⟨by simp [zeroValue, xi hi, hz], hf⟩
theorem xa {t : TypeId} (h : aggT P t = true) (w : World) : (isAgg t).run P w = .ok true w := by
  unfold aggT at h
  cases hd : P.underlying t with
  | none => rw [hd] at h; cases h
  | some d => rw [hd] at h; cases d <;> simp at h <;> simp [isAgg, xu hd]
theorem xa' {t : TypeId} (h : aggT P t = false) (ho : okT P t = true) (w : World) : (isAgg t).run P w = .ok false w := by
  unfold aggT at h
  unfold okT at ho
  cases hd : P.underlying t with
  | none => rw [hd] at ho; cases ho
  | some d => rw [hd] at h; cases d <;> simp at h <;> simp [isAgg, xu hd]

theorem getRow_some {a : Addr} {cs : List Value} {e : TypeId} {l : Bool} (h : getRow s a = some (cs, e, l)) : s.heap.get a.block = some (.row cs e l) ∧ a.spot = none := by
  unfold getRow at h
  cases hg : s.heap.get a.block with
  | none => rw [hg] at h; cases h
  | some o =>
    rw [hg] at h
    cases o with
    | row cs' e' l' =>
      dsimp only at h
      cases hs : a.spot with
      | none => rw [hs] at h; injection h with h; injection h with h1 h; injection h with h2 h3; subst h1; subst h2; subst h3; exact ⟨rfl, rfl⟩
      | some _ => rw [hs] at h; cases h
    | obj _ => cases h
    | tab _ => cases h
    | dead => cases h
/-- A row that is known, and the block that it is. -/
theorem WRel.row (hw : WRel P b ρ s w) {a a' : Addr} {cs : List Value} {e : TypeId} {l : Bool} (h : getRow s a = some (cs, e, l)) (ha : ARel ρ a a') :
    ∃ k c fz, ρ a.block = some k ∧ a' = ⟨k.blk, k.sh + a.off, none⟩ ∧ s.heap.get a.block = some (.row cs e l) ∧ w.heap[k.blk]? = some (.cells c e fz) ∧ RowRel P ρ k cs e l c fz := by
  obtain ⟨h1, _⟩ := getRow_some h
  obtain ⟨_, k, hk, rfl⟩ := ha
  obtain ⟨o', ho, c, fz, rfl, hr⟩ := hw.heap _ _ k h1 (by simp) hk
  exact ⟨k, c, fz, hk, rfl, h1, ho, hr⟩
theorem WRel.cells (hw : WRel P b ρ s w) {a a' : Addr} {cs : List Value} (h : getCells s a = some cs) (ha : ARel ρ a a') :
    ∃ (k : Loc) (c : Array Value) (e : TypeId) (fz : Nat × Nat), a' = ⟨k.blk, k.sh + a.off, none⟩ ∧ w.heap[k.blk]? = some (.cells c e fz) ∧ ∀ (j : Nat) (v : Value), cs[j]? = some v → ∃ v', c[k.sh + j]? = some v' ∧ VRel ρ v v' := by
  obtain ⟨_, k, hk, rfl⟩ := ha
  unfold getCells at h
  cases hg : s.heap.get a.block with
  | none => rw [hg] at h; cases h
  | some o =>
    rw [hg] at h
    cases o with
    | obj _ => cases h
    | dead => cases h
    | row cs' e' l' =>
      dsimp only at h
      cases hs : a.spot with
      | some _ => rw [hs] at h; cases h
      | none =>
        rw [hs] at h; injection h with h; subst h
        obtain ⟨o', ho, c, fz, rfl, hr⟩ := hw.heap _ _ k hg (by simp) hk
        exact ⟨k, c, _, fz, rfl, ho, hr.2.2.1⟩
    | tab cs' =>
      dsimp only at h
      cases hs : a.spot with
      | some _ => rw [hs] at h; cases h
      | none =>
        rw [hs] at h; injection h with h; subst h
        obtain ⟨o', ho, c, e, fz, rfl, hr⟩ := hw.heap _ _ k hg (by simp) hk
        exact ⟨k, c, e, fz, rfl, ho, hr⟩
theorem cell_of {w : World} {g o : Nat} {c : Array Value} {e : TypeId} {fz : Nat × Nat} (h : w.heap[g]? = some (.cells c e fz)) : w.cell? ⟨g, o, none⟩ = c[o]? := by
  simp [World.cell?, h]
theorem addr_add (g o j : Nat) : (⟨g, o, none⟩ : Addr).add j = ⟨g, o + j, none⟩ := by unfold Addr.add; split <;> simp_all
theorem row_subV {k : Loc} {cs : List Value} {c : Array Value} (h : ∀ (j : Nat) (v : Value), cs[j]? = some v → ∃ v', c[k.sh + j]? = some v' ∧ VRel ρ v v') (n off : Nat) (hn : ((cs.drop off).take n).length = n) :
    LRel ρ ((cs.drop off).take n) ((c.toList.drop (k.sh + off)).take n) ∧ ((c.toList.drop (k.sh + off)).take n).length = n := by
  have key : ∀ (i : Nat) (v : Value), ((cs.drop off).take n)[i]? = some v → ∃ v', ((c.toList.drop (k.sh + off)).take n)[i]? = some v' ∧ VRel ρ v v' := fun i v hv => by
    have hi : i < n := by have := (List.getElem?_eq_some_iff.1 hv).1; omega
    rw [List.getElem?_take, if_pos hi, List.getElem?_drop] at hv
    obtain ⟨v', h1, h2⟩ := h _ _ hv
    refine ⟨v', ?_, h2⟩
    rw [List.getElem?_take, if_pos hi, List.getElem?_drop]
    simpa [Nat.add_assoc] using h1
  have hl : ((c.toList.drop (k.sh + off)).take n).length = n := by
    cases n with
    | zero => simp
    | succ m =>
      have hx : m < ((cs.drop off).take (m + 1)).length := by omega
      obtain ⟨v', h1, _⟩ := key m _ (List.getElem?_eq_getElem hx)
      have := (List.getElem?_eq_some_iff.1 h1).1
      have h2 : ((c.toList.drop (k.sh + off)).take (m + 1)).length ≤ m + 1 := by rw [List.length_take]; omega
      omega
  exact ⟨LRel.of_get (by rw [hn, hl]) key, hl⟩
theorem row_sub {k : Loc} {cs : List Value} {e : TypeId} {l : Bool} {c : Array Value} {fz : Nat × Nat} (h : RowRel P ρ k cs e l c fz) (n off : Nat) (hn : ((cs.drop off).take n).length = n) :
    LRel ρ ((cs.drop off).take n) ((c.toList.drop (k.sh + off)).take n) ∧ ((c.toList.drop (k.sh + off)).take n).length = n := row_subV h.2.2.1 n off hn
theorem run_cells {g o n : Nat} {c : Array Value} {e : TypeId} {fz : Nat × Nat} (h : w.heap[g]? = some (.cells c e fz)) (hl : ((c.toList.drop o).take n).length = n) :
    (loadCells ⟨g, o, none⟩ n).run P w = .ok ((c.toList.drop o).take n).toArray w := by
  have := run_loadCells_list (P := P) w ⟨g, o, none⟩ ((c.toList.drop o).take n) fun j v hv => by
    have hj : j < n := by have := (List.getElem?_eq_some_iff.1 hv).1; omega
    rw [addr_add, cell_of h]
    rw [List.getElem?_take, if_pos hj, List.getElem?_drop] at hv
    simpa using hv
  rwa [hl] at this

/-! ### What is quiet -/
/-- The operation yields a value, and the world stands. -/
def QOk (P : Program) (ρ : Ren) (w : World) (v : Value) (x : Sem Value) : Prop := ∃ v', VRel ρ v v' ∧ x.run P w = .ok v' w

theorem ofO_ok {α β : Type} {o : Option α} {c : Nat} {k : α → Rs β} {r : β} {s' : St} (h : ofO o c k = .ok r s') : ∃ a, o = some a ∧ k a = .ok r s' := by
  cases o with
  | none => cases h
  | some a => exact ⟨a, rfl, h⟩
theorem bif_ok {c : Bool} {β : Type} {x : Rs β} {a d : Nat} {r : β} {s' : St} (h : (bif c then x else .no a d) = .ok r s') : c = true ∧ x = .ok r s' := by
  cases c with
  | false => cases h
  | true => exact ⟨rfl, h⟩

theorem doLoad_ok {t : TypeId} {p p' v : Value} {s' : St} (h : doLoad P t p s = .ok v s') (hp : VRel ρ p p') (hw : WRel P b ρ s w) : s' = s ∧ QOk P ρ w v (Instr.loadAt t p') := by
  unfold doLoad at h
  cases hp with
  | ptr a a' ha =>
    dsimp only at h
    cases hr : getCells s a with
    | none => rw [hr] at h; cases h
    | some cs =>
      rw [hr] at h
      dsimp only at h
      obtain ⟨k, c, e, fz, rfl, hc, hrr⟩ := hw.cells hr ha
      cases hag : aggT P t with
      | true =>
        rw [hag] at h
        simp only [cond_true] at h
        cases hz : szT P t with
        | none => rw [hz] at h; cases h
        | some n =>
          rw [hz] at h
          obtain ⟨h1, h2⟩ := bif_ok h
          rw [takeL_eq, dropL_eq] at h1 h2
          rw [lenL_eq] at h1
          injection h2 with h2 h3
          subst h2; subst h3
          obtain ⟨h4, h5⟩ := row_subV hrr n a.off (Nat.eq_of_beq_eq_true h1)
          refine ⟨rfl, _, .agg _ _ h4, ?_⟩
          simp [Instr.loadAt, Instr.sureAddr, loadVar, xa hag, xs hz, run_cells hc h5]
      | false =>
        rw [hag] at h
        simp only [cond_false] at h
        obtain ⟨h1, h2⟩ := bif_ok h
        rw [nth_eq] at h2
        cases hn : cs[a.off]? with
        | none => rw [hn] at h2; cases h2
        | some u =>
          rw [hn] at h2
          injection h2 with h2 h3
          subst h2; subst h3
          obtain ⟨u', h4, h5⟩ := hrr _ _ hn
          refine ⟨rfl, u', h5, ?_⟩
          simp [Instr.loadAt, Instr.sureAddr, loadVar, xa' hag h1, cell_of hc, h4]
  | _ => cases h
end
end Go.Proofs.YtmeegolgabhnpaaGreatDoor.X

namespace Go.Proofs.YtmeegolgabhnpaaGreatDoor.X
open Go.RowKit

section
variable {P : Program} {b : Base} {ρ : Ren} {s : St} {w : World}

theorem flat_run {α : Type} : ∀ (x : Sem α) {a : α}, flatRun P x = some a → ∀ w, x.run P w = .ok a w
  | .pure _, _, h, _ => by simp [flatRun] at h; subst h; rfl
  | .program k, _, h, w => by simp only [flatRun] at h; simpa [Sem.run] using flat_run (k P) h w
  | .mark _ k, _, h, w => by simp only [flatRun] at h; simpa [Sem.run] using flat_run k h w
  | .load .., _, h, _ | .store .., _, h, _ | .new .., _, h, _ | .shape .., _, h, _ | .freeze .., _, h, _ | .frozen .., _, h, _ | .getObj .., _, h, _ | .setObj .., _, h, _ | .choose .., _, h, _ | .sys .., _, h, _ | .halt _, _, h, _ => by simp [flatRun] at h

theorem doFlat_ok {a _a' v : Value} {x : Sem Value} {s' : St} (h : doFlat P a x s = .ok v s') : s' = s ∧ flat a = true ∧ QOk P ρ w v x := by
  unfold doFlat at h
  cases ha : flat a with
  | false => rw [ha] at h; cases h
  | true =>
    rw [ha] at h
    simp only [cond_true] at h
    cases hx : flatRun P x with
    | none => rw [hx] at h; cases h
    | some u =>
      rw [hx] at h
      obtain ⟨h1, h2⟩ := bif_ok h
      injection h2 with h2 h3
      subst h2; subst h3
      exact ⟨rfl, rfl, u, flat_refl ρ h1, flat_run x hx w⟩

set_option maxHeartbeats 1000000 in
theorem nilEq_ok {t : TypeId} {a c a' c' : Value} {r : Bool} (h : nilEq P t a c = some r) (ha : VRel ρ a a') (hc : VRel ρ c c') (d : Nat) :
    (Op.equalIn (d + 1) t a' c').run P w = .ok r w ∧ (∀ op x y, (eqGuard op t x y a' c').run P w = .ok () w) ∧ (∀ op : BinOp, (op = .eql ∨ op = .neq) → binOp op t a' c' = (if op = .eql then do pure (.bool (← Op.equal t a' c')) else do pure (.bool (!(← Op.equal t a' c'))))) := by
  unfold nilEq at h
  cases hu : P.underlying t with
  | none => rw [hu] at h; simp at h
  | some d' =>
    rw [hu] at h
    cases ha <;> cases hc <;> cases d' <;> simp at h <;> subst h <;>
      refine ⟨by simp [Op.equalIn, xu hu], fun op x y => ?_, fun op ho => ?_⟩ <;>
      first
        | (rcases ho with rfl | rfl <;> rfl)
        | (unfold eqGuard; cases op <;> simp)

theorem ltI_eq : ∀ x y : Int, ltI x y = decide (x < y)
  | .ofNat a, .ofNat b => by
    rw [Bool.eq_iff_iff, decide_eq_true_iff]
    show Nat.ble (a + 1) b = true ↔ _
    rw [Nat.ble_eq]
    show a + 1 ≤ b ↔ (a : Int) < (b : Int)
    omega
  | .negSucc a, .ofNat b => by
    have : Int.negSucc a < Int.ofNat b := by rw [Int.negSucc_eq]; show -((a : Int) + 1) < (b : Int); omega
    exact (decide_eq_true this).symm
  | .ofNat a, .negSucc b => by
    have : ¬ Int.ofNat a < Int.negSucc b := by rw [Int.negSucc_eq]; show ¬ (a : Int) < -((b : Int) + 1); omega
    exact (decide_eq_false this).symm
  | .negSucc a, .negSucc b => by
    rw [Bool.eq_iff_iff, decide_eq_true_iff]
    show Nat.ble (b + 1) a = true ↔ _
    rw [Nat.ble_eq, Int.negSucc_eq, Int.negSucc_eq]
    omega
theorem cmpI_ok {op : BinOp} {t : TypeId} {x y : Operand} {a c a' c' : Value} {r : Bool} (h : cmpI op a c = some r) (ha : VRel ρ a a') (hc : VRel ρ c c') (w : World) :
    ((do eqGuard op t x y a' c'; binOp op t a' c') : Sem Value).run P w = .ok (.bool r) w := by
  unfold cmpI at h
  cases ha <;> cases hc <;> first | (cases h; done) | skip
  rename_i k n k' n'
  dsimp only at h
  by_cases hk : k = k'
  · subst hk
    cases op <;> first | (cases h; done) | skip
    all_goals
      simp only [decide_true, cond_true, ltI_eq, Option.some.injEq] at h
      subst h
      simp [eqGuard, binOp, Op.intCmp] <;> (rw [← decide_not]; simp only [Int.not_lt])
  · cases op <;> simp [hk] at h
theorem doBin_ok {op : BinOp} {t : TypeId} {x y : Operand} {a c a' c' v : Value} {s' : St} (h : doBin P op t x y a c s = .ok v s') (ha : VRel ρ a a') (hc : VRel ρ c c') :
    s' = s ∧ QOk P ρ w v (do eqGuard op t x y a' c'; binOp op t a' c') := by
  unfold doBin at h
  cases hcmp : cmpI op a c with
  | some r =>
    rw [hcmp] at h
    injection h with h1 h2
    subst h1; subst h2
    exact ⟨rfl, _, .bool r, cmpI_ok hcmp ha hc w⟩
  | none =>
  rw [hcmp] at h
  dsimp only at h
  cases hf : (flat a && flat c) with
  | true =>
    rw [hf] at h
    simp only [cond_true] at h
    simp only [Bool.and_eq_true] at hf
    have e1 := flat_eq ha hf.1
    have e2 := flat_eq hc hf.2
    subst e1; subst e2
    cases hx : flatRun P (do eqGuard op t x y a' c'; binOp op t a' c') with
    | none => rw [hx] at h; cases h
    | some u =>
      rw [hx] at h
      obtain ⟨h1, h2⟩ := bif_ok h
      injection h2 with h2 h3
      subst h2; subst h3
      exact ⟨rfl, u, flat_refl ρ h1, flat_run _ hx w⟩
  | false =>
    rw [hf] at h
    simp only [cond_false] at h
    cases hn : nilEq P t a c with
    | none => rw [hn] at h; cases h
    | some r =>
      rw [hn] at h
      obtain ⟨h1, h2, h3⟩ := nilEq_ok (w := w) hn ha hc 9999
      have hq : (Op.equal t a' c').run P w = .ok r w := h1
      cases op <;> first
        | (cases h; done)
        | skip
      all_goals
        injection h with h4 h5
        subst h4; subst h5
        refine ⟨rfl, _, .bool _, ?_⟩
        rw [h3 _ (by simp)]
        simp [h2, hq]

theorem partOf_ok {t : TypeId} {cs cs' : List Value} {off : Nat} {v : Value} {s' : St} (h : partOf P t cs off s = .ok v s') (hc : LRel ρ cs cs') : s' = s ∧ QOk P ρ w v (part t ⟨cs'⟩ off) := by
  unfold partOf at h
  cases hag : aggT P t with
  | true =>
    rw [hag] at h
    simp only [cond_true] at h
    obtain ⟨n, hn, h⟩ := ofO_ok h
    injection h with h1 h2
    subst h1; subst h2
    rw [takeL_eq, dropL_eq]
    refine ⟨rfl, _, .agg _ _ ((hc.drop off).take n), ?_⟩
    simp only [part, Sem.run_bind, xa hag, Result.andThen_ok, if_true, xs hn, Sem.run_pure]
    congr 2
    apply Array.ext'
    simp [List.extract_eq_take_drop, Nat.add_sub_cancel_left]
  | false =>
    rw [hag] at h
    simp only [cond_false] at h
    obtain ⟨h1, h⟩ := bif_ok h
    obtain ⟨u, hu, h⟩ := ofO_ok h
    injection h with h2 h3
    subst h2; subst h3
    rw [nth_eq] at hu
    obtain ⟨u', h4, h5⟩ := hc.get hu
    refine ⟨rfl, u', h5, ?_⟩
    simp [part, xa' hag h1, h4]
theorem doField_ok {t : TypeId} {x x' v : Value} {f : Nat} {s' : St} (h : doField P t x f s = .ok v s') (hx : VRel ρ x x') : s' = s ∧ QOk P ρ w v (Instr.field t x' f) := by
  unfold doField at h
  cases hu : P.underlying t with
  | none => rw [hu] at h; cases h
  | some d =>
    rw [hu] at h
    cases d <;> first | (cases h; done) | skip
    cases hx <;> first | (cases h; done) | skip
    rename_i fs a a' ha
    dsimp only at h
    obtain ⟨fd, hfd, h⟩ := ofO_ok h
    obtain ⟨h1, u', h2, h3⟩ := partOf_ok (w := w) h ha
    rw [nth_eq] at hfd
    refine ⟨h1, u', h2, ?_⟩
    simp only [Instr.field, Sem.run_bind, xu hu, Result.andThen_ok]
    rw [show fs[f]? = some fd by simpa using hfd]
    simpa [asAgg] using h3
theorem szT_size {t : TypeId} {n : Nat} (h : szT P t = some n) : ∃ i, P.info? t = some i ∧ i.size = n := by
  unfold szT at h
  cases hi : P.info? t with
  | none => rw [hi] at h; cases h
  | some i => rw [hi] at h; injection h with h; exact ⟨i, rfl, h⟩
theorem ARel.add {a a' : Addr} (h : ARel ρ a a') (n : Nat) : ARel ρ ⟨a.block, a.off + n, a.spot⟩ (a'.add n) := by
  obtain ⟨h1, k, h2, rfl⟩ := h
  exact ⟨h1, k, h2, by rw [addr_add]; simp [Nat.add_assoc]⟩
theorem doFieldAddr_ok {t : TypeId} {p p' v : Value} {f : Nat} {s' : St} (h : doFieldAddr P t p f s = .ok v s') (hp : VRel ρ p p') : s' = s ∧ QOk P ρ w v (Instr.fieldAt t p' f) := by
  unfold doFieldAddr at h
  cases hu : P.underlying t with
  | none => rw [hu] at h; cases h
  | some d =>
    rw [hu] at h
    cases d <;> first | (cases h; done) | skip
    cases hp <;> first | (cases h; done) | skip
    rename_i fs a a' ha
    dsimp only at h
    obtain ⟨fd, hfd, h⟩ := ofO_ok h
    obtain ⟨n, hn, h⟩ := ofO_ok h
    obtain ⟨h1, h⟩ := bif_ok h
    injection h with h2 h3
    subst h2; subst h3
    rw [nth_eq] at hfd
    refine ⟨rfl, _, .ptr _ _ (ha.add fd.offset), ?_⟩
    have hn0 : n ≠ 0 := by rintro rfl; cases h1
    simp only [Instr.fieldAt, Sem.run_bind, xu hu, Result.andThen_ok]
    rw [show fs[f]? = some fd by simpa using hfd]
    simp [Instr.sureAddr, fieldPlace, xs hn, hn0]
theorem doIndexAddr_ok {t : TypeId} {x x' i i' v : Value} {s' : St} (h : doIndexAddr P t x i s = .ok v s') (hx : VRel ρ x x') (hi : VRel ρ i i') : s' = s ∧ QOk P ρ w v (Instr.indexAt t x' i') := by
  unfold doIndexAddr at h
  cases hu : P.underlying t with
  | none => rw [hu] at h; cases h
  | some d =>
    rw [hu] at h
    cases d <;> first | (cases h; done) | skip
    case slice e =>
      cases hx <;> first | (cases h; done) | skip
      case sliceE =>
        exfalso
        cases hi <;> first | (cases h; done) | skip
        dsimp only at h
        obtain ⟨z, hz, h⟩ := ofO_ok h
        obtain ⟨h1, h⟩ := bif_ok h
        simp only [Bool.and_eq_true, decide_eq_true_eq] at h1
        have h2 := h1.2
        simp at h2
        omega
      cases hi <;> first | (cases h; done) | skip
      rename_i a a' n c c' ha hc kk m
      dsimp only at h
      obtain ⟨z, hz, h⟩ := ofO_ok h
      obtain ⟨h1, h⟩ := bif_ok h
      injection h with h2 h3
      subst h2; subst h3
      simp only [Bool.and_eq_true, decide_eq_true_eq] at h1
      refine ⟨rfl, _, .ptr _ _ (ha.add (m.toNat * z)), ?_⟩
      simp [Instr.indexAt, asIntOf, xu hu, h1, xs hz]
    case array n e =>
      cases hx <;> first | (cases h; done) | skip
      cases hi <;> first | (cases h; done) | skip
      rename_i a a' ha kk m
      dsimp only at h
      obtain ⟨z, hz, h⟩ := ofO_ok h
      obtain ⟨h1, h⟩ := bif_ok h
      injection h with h2 h3
      subst h2; subst h3
      simp only [Bool.and_eq_true, decide_eq_true_eq] at h1
      refine ⟨rfl, _, .ptr _ _ (ha.add (m.toNat * z)), ?_⟩
      simp [Instr.indexAt, Instr.sureAddr, asIntOf, xu hu, h1, xs hz]
end
end Go.Proofs.YtmeegolgabhnpaaGreatDoor.X

namespace Go.Proofs.YtmeegolgabhnpaaGreatDoor.X
open Go.RowKit

section
variable {P : Program} {b : Base} {ρ : Ren} {s : St} {w : World}

theorem cells_rel {v v' : Value} (h : VRel ρ v v') : LRel ρ (cellsOf v) v'.cells.toList := by
  cases h <;> first
    | exact .cons _ _ _ _ (.sliceE _ _ _ _ (by assumption)) .nil
    | exact .cons _ _ _ _ (by constructor <;> assumption) .nil
    | (rename_i h; exact h)
    | skip
theorem cellOk_rel {v v' : Value} (h : VRel ρ v v') (k : cellOk v = true) : cellOk v' = true := by
  cases h <;> first | rfl | exact k
theorem cellsOk_all : ∀ {l : List Value}, cellsOk l = true → ∀ v ∈ l, cellOk v = true
  | [], _, _, h => by cases h
  | x :: l, h, v, hv => by
    have h' : (cellOk x && cellsOk l) = true := h
    simp only [Bool.and_eq_true] at h'
    rcases List.mem_cons.1 hv with rfl | hv
    · exact h'.1
    · exact cellsOk_all h'.2 v hv
theorem cellsOk_rel : ∀ {l l' : List Value}, LRel ρ l l' → cellsOk l = true → ∀ v ∈ l', cellOk v = true
  | _, _, .nil, _, _, h => by cases h
  | _, _, .cons x x' l l' h t, k, v, hv => by
    have k' : (cellOk x && cellsOk l) = true := k
    simp only [Bool.and_eq_true] at k'
    rcases List.mem_cons.1 hv with rfl | hv
    · exact cellOk_rel h k'.1
    · exact cellsOk_rel t k'.2 v hv

def splice (l : List Value) (a : Nat) (m : List Value) : List Value := l.take a ++ (m ++ l.drop (a + m.length))
theorem splice_length {l m : List Value} {a : Nat} (h : a + m.length ≤ l.length) : (splice l a m).length = l.length := by
  simp only [splice, List.length_append, List.length_take, List.length_drop]; omega
theorem splice_get {l m : List Value} {a : Nat} (h : a + m.length ≤ l.length) (j : Nat) : (splice l a m)[j]? = if j < a then l[j]? else if j < a + m.length then m[j - a]? else l[j]? := by
  have ht : (l.take a).length = a := by rw [List.length_take]; omega
  unfold splice
  by_cases h1 : j < a
  · rw [if_pos h1, List.getElem?_append_left (by omega), List.getElem?_take, if_pos h1]
  · rw [if_neg h1, List.getElem?_append_right (by omega), ht]
    by_cases h2 : j < a + m.length
    · rw [if_pos h2, List.getElem?_append_left (by omega)]
    · rw [if_neg h2, List.getElem?_append_right (by omega), List.getElem?_drop]
      congr 1; omega
theorem row_splice {k : Loc} {cs : List Value} {e : TypeId} {l : Bool} {c : Array Value} {fz : Nat × Nat} (h : RowRel P ρ k cs e l c fz) {off : Nat} {vs vs' : List Value} (hv : LRel ρ vs vs') (hn : off + vs.length ≤ cs.length) :
    RowRel P ρ k (splice cs off vs) e l ⟨splice c.toList (k.sh + off) vs'⟩ fz ∧ k.sh + off + vs'.length ≤ c.size := by
  have hlen := hv.length
  have hfit : k.sh + off + vs'.length ≤ c.toList.length := by have := h.2.1; have e : c.toList.length = c.size := Array.length_toList; omega
  refine ⟨⟨fun j hj => h.1 j ?_, ?_, fun j v hj => ?_, fun hl n hz => ?_⟩, by simpa using hfit⟩
  · simpa [splice_length hfit] using hj
  · rw [splice_length hn]; simpa [splice_length hfit] using h.2.1
  · rw [splice_get hn] at hj
    have hg : (⟨splice c.toList (k.sh + off) vs'⟩ : Array Value)[k.sh + j]? = (splice c.toList (k.sh + off) vs')[k.sh + j]? := by simp
    rw [hg, splice_get hfit]
    by_cases h1 : j < off
    · rw [if_pos h1] at hj
      rw [if_pos (by omega)]
      simpa using h.2.2.1 j v hj
    · rw [if_neg h1] at hj
      rw [if_neg (by omega)]
      by_cases h2 : j < off + vs.length
      · rw [if_pos h2] at hj
        rw [if_pos (by omega)]
        obtain ⟨v', h3, h4⟩ := hv.get hj
        exact ⟨v', by rw [show k.sh + j - (k.sh + off) = j - off by omega]; exact h3, h4⟩
      · rw [if_neg h2] at hj
        rw [if_neg (by omega)]
        simpa using h.2.2.1 j v hj
  · have := h.2.2.2 hl n hz
    rw [splice_length hn]
    simpa [splice_length hfit] using this

theorem setBlk_self {g : Nat} {o : Obj} (h : w.heap[g]? = some o) : setBlk w g o = w := by
  have : w.heap.setIfInBounds g o = w.heap := by
    apply Array.ext_getElem?
    intro i
    rw [Array.getElem?_setIfInBounds]
    by_cases he : g = i
    · subst he
      rw [if_pos rfl, if_pos (Array.getElem?_eq_some_iff.1 h).1, h]
    · rw [if_neg he]
  unfold setBlk
  rw [this]
theorem setBlk_setBlk (w : World) (g : Nat) (o o' : Obj) : setBlk (setBlk w g o) g o' = setBlk w g o' := by
  unfold setBlk
  simp
theorem setCell_blk {g o : Nat} {c : Array Value} {e : TypeId} {fz : Nat × Nat} (h : w.heap[g]? = some (.cells c e fz)) (v : Value) : w.setCell ⟨g, o, none⟩ v = setBlk w g (.cells (c.setIfInBounds o v) e fz) := by
  have hlt := (Array.getElem?_eq_some_iff.1 h).1
  unfold World.setCell setBlk
  congr 1
  apply Array.ext_getElem?
  intro i
  rw [Array.getElem?_modify, Array.getElem?_setIfInBounds]
  by_cases he : g = i
  · subst he
    have hx : w.heap[g] = .cells c e fz := by
      have := Array.getElem?_eq_getElem hlt
      rw [h] at this
      exact (Option.some.inj this).symm
    simp [hlt, hx]
  · simp [he]
theorem oneCell_of {v : Value} (h : cellOk v = true) : v.oneCell' = true := by
  cases v <;> first | rfl | cases h
theorem run_storeRow (g o : Nat) (e : TypeId) (fz : Nat × Nat) : ∀ (vs : List Value) (i : Nat) (c : Array Value) (w : World), w.heap[g]? = some (.cells c e fz) → (∀ j, j < c.size → ¬ (fz.1 ≤ j ∧ j < fz.2)) → o + i + vs.length ≤ c.size → (∀ v ∈ vs, cellOk v = true) →
    (storeCells ⟨g, o, none⟩ vs i).run P w = .ok () (setBlk w g (.cells ⟨splice c.toList (o + i) vs⟩ e fz))
  | [], i, c, w, hg, _, _, _ => by
    simp only [storeCells, Sem.run_pure, splice, List.length_nil, Nat.add_zero, List.nil_append, List.take_append_drop]
    rw [setBlk_self hg]
  | v :: vs, i, c, w, hg, hf, hl, hv => by
    rw [List.length_cons] at hl
    have hcell : w.cell? ⟨g, o + i, none⟩ = some (c[o + i]'(by omega)) := by rw [cell_of hg]; exact Array.getElem?_eq_getElem _
    have hfz : w.frozen? ⟨g, o + i, none⟩ = false := by
      have := hf (o + i) (by omega)
      simp only [World.frozen?, hg]
      simpa using this
    have hs := run_store P w ⟨g, o + i, none⟩ v .plain (oneCell_of (hv v (by simp)))
    rw [hcell, hfz, setCell_blk hg] at hs
    simp only [storeCells, Sem.run_bind, addr_add, hs, Bool.false_eq_true, if_false, Result.andThen_ok]
    have hg2 : (setBlk w g (.cells (c.setIfInBounds (o + i) v) e fz)).heap[g]? = some (.cells (c.setIfInBounds (o + i) v) e fz) := by
      rw [heap_setBlk, if_pos rfl, if_pos (Array.getElem?_eq_some_iff.1 hg).1]
    have ih := run_storeRow g o e fz vs (i + 1) (c.setIfInBounds (o + i) v) _ hg2 (by simpa using hf) (by simp; omega) fun u hu => hv u (by simp [hu])
    rw [ih, setBlk_setBlk]
    congr 4
    apply List.ext_getElem?
    intro j
    rw [splice_get (by simp; omega), splice_get (by simp; omega)]
    simp only [Array.toList_setIfInBounds, List.length_cons, List.getElem?_set, Array.length_toList]
    by_cases h1 : j < o + i
    · rw [if_pos h1, if_pos (by omega), if_neg (by omega)]
    · rw [if_neg h1]
      by_cases h2 : j = o + i
      · subst h2
        rw [if_pos (by omega), if_pos rfl, if_pos (by omega), if_pos (by omega)]
        simp
      · rw [if_neg (by omega)]
        by_cases h3 : j < o + (i + 1) + vs.length
        · rw [if_pos h3, if_pos (by omega), show j - (o + i) = (j - (o + (i + 1))) + 1 by omega, List.getElem?_cons_succ]
        · rw [if_neg h3, if_neg (by omega), if_neg (by omega)]

/-- A row is written in part. -/
theorem WRel.splice (hw : WRel P b ρ s w) {a a' : Addr} {cs : List Value} {e : TypeId} {l : Bool} (hr : getRow s a = some (cs, e, l)) (ha : ARel ρ a a') (hG : b.G ≤ a.block) {vs vs' : List Value} (hv : LRel ρ vs vs') (hok : cellsOk vs = true)
    (off : Nat) (hn : off + vs.length ≤ cs.length) (j : Nat) (hj : a.off + j = off) :
    ∃ w', Ok P b ρ s ρ (setRow s a.block (splice cs off vs) e l) w' ∧ (storeCells (a'.add j) vs').run P w = .ok () w' := by
  obtain ⟨k, c, fz, hk, rfl, hg, hc, hrr⟩ := hw.row hr ha
  obtain ⟨h1, h2⟩ := row_splice hrr hv hn
  refine ⟨_, hw.set hg (by simp) hk hG ⟨_, fz, rfl, h1⟩, ?_⟩
  subst hj
  rw [addr_add]
  have := run_storeRow (P := P) k.blk (k.sh + a.off + j) e fz vs' 0 c w hc hrr.1 (by simpa [Nat.add_assoc] using h2) (cellsOk_rel hv hok)
  simpa [Nat.add_assoc] using this
theorem splice_eq (cs : List Value) (off : Nat) (vs : List Value) : appL (takeL off cs) (appL vs (dropL (off + vs.length) cs)) = splice cs off vs := by
  rw [appL_eq, appL_eq, takeL_eq, dropL_eq]; rfl
theorem set_splice {cs : List Value} {off : Nat} (v : Value) (h : off < cs.length) : cs.set off v = splice cs off [v] := by
  apply List.ext_getElem?
  intro j
  rw [splice_get (by simp; omega), List.getElem?_set]
  by_cases h1 : off = j
  · subst h1; rw [if_pos rfl, if_pos h, if_neg (by omega), if_pos (by simp)]; simp
  · rw [if_neg h1]
    by_cases h2 : j < off
    · rw [if_pos h2]
    · rw [if_neg h2, if_neg (by simp; omega)]
theorem doStore_ok {t : TypeId} {p p' v v' r : Value} {s' : St} (h : doStore P b.G t p v s = .ok r s') (hp : VRel ρ p p') (hv : VRel ρ v v') (hw : WRel P b ρ s w) :
    r = undef ∧ ∃ w', Ok P b ρ s ρ s' w' ∧ (Instr.storeAt t p' v').run P w = .ok () w' := by
  unfold doStore at h
  cases hp <;> first | (cases h; done) | skip
  rename_i a a' ha
  dsimp only at h
  cases hr : getRow s a with
  | none => rw [hr] at h; cases h
  | some x =>
    obtain ⟨cs, e, l⟩ := x
    rw [hr] at h
    dsimp only at h
    cases hz : szT P t with
    | none => rw [hz] at h; cases h
    | some n =>
      rw [hz] at h
      dsimp only at h
      obtain ⟨h1, h⟩ := bif_ok h
      simp only [Bool.and_eq_true, lenL_eq] at h1
      obtain ⟨⟨hG, hok⟩, hn, hfit⟩ := h1
      have hn := Nat.eq_of_beq_eq_true hn
      have hfit := Nat.le_of_ble_eq_true hfit
      have hcr := cells_rel hv
      have hsz : v'.cells.size = n := by rw [← hn, hcr.length, Array.length_toList]
      obtain ⟨w', h2, h3⟩ := hw.splice hr ha (Nat.le_of_ble_eq_true hG) hcr hok a.off (by omega) 0 rfl
      have h3' : (storeCells a' v'.cells.toList).run P w = .ok () w' := by simpa [Addr.add] using h3
      have hrun : (Instr.storeAt t (.pointer (some a')) v').run P w = .ok () w' := by
        simp [Instr.storeAt, Instr.sureAddr, storeVar, xs hz, hsz, h3']
      cases h1 : Nat.beq n 1 with
      | true =>
        rw [h1] at h
        simp only [cond_true] at h
        have hn1 := Nat.eq_of_beq_eq_true h1
        cases hvs : cellsOf v with
        | nil => rw [hvs] at h; cases h
        | cons x l' =>
          cases l' with
          | cons _ _ => rw [hvs] at h; cases h
          | nil =>
            rw [hvs] at h h2
            injection h with h4 h5
            subst h4; subst h5
            rw [setL_eq, set_splice _ (by omega)]
            exact ⟨rfl, w', h2, hrun⟩
      | false =>
        rw [h1] at h
        simp only [cond_false] at h
        injection h with h4 h5
        subst h4; subst h5
        rw [← hn, splice_eq]
        exact ⟨rfl, w', h2, hrun⟩
end
end Go.Proofs.YtmeegolgabhnpaaGreatDoor.X
