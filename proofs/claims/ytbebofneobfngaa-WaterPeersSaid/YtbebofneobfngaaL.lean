/- Plain laws on stamps and marks. -/
import Derived.Test.YtbebofneobfngaaI
namespace Go.Proofs.Ytbebofneobfngaa
open Go.RowKit

def leP (a b : St) : Prop := a.wall < b.wall ∨ (a.wall = b.wall ∧ (a.logic < b.logic ∨ (a.logic = b.logic ∧ a.node ≤ b.node)))

theorem leP_refl (a : St) : leP a a := by unfold leP; omega
theorem leP_trans {a b c : St} (h : leP a b) (k : leP b c) : leP a c := by unfold leP at *; omega
theorem less_of_le {a b : St} (h : leP a b) : lessB b a = false := by
  unfold leP at h; unfold lessB
  split
  · split
    · simp; omega
    · simp; omega
  · simp; omega
theorem ord_pos {a b : St} : 0 < ordI a b ↔ ¬ leP a b := by
  unfold ordI orI orI orI orI cmpI leP
  (repeat' split) <;> omega
theorem ord_neg {a b : St} : ordI a b < 0 ↔ ¬ leP b a := by
  unfold ordI orI orI orI orI cmpI leP
  (repeat' split) <;> omega

theorem minS_eq (a b : St) : minS a b = if ordI b a < 0 then b else a := by
  unfold minS mostI
  simp only [List.foldl_cons, List.foldl_nil, pickI]
  by_cases h : ordI b a < 0
  · rw [if_pos h, if_pos (by omega)]
  · rw [if_neg h, if_neg (by omega)]
theorem maxS_eq (a b : St) : maxS a b = if 0 < ordI b a then b else a := by
  unfold maxS mostI
  simp only [List.foldl_cons, List.foldl_nil, pickI, Int.mul_one]

theorem min_l (a b : St) : leP (minS a b) a := by
  rw [minS_eq]
  split
  · rename_i h; have := ord_neg.1 h; unfold leP at *; omega
  · exact leP_refl a
theorem min_r (a b : St) : leP (minS a b) b := by
  rw [minS_eq]
  split
  · exact leP_refl b
  · rename_i h
    have : leP a b := by
      by_cases hl : leP a b
      · exact hl
      · exact absurd (ord_neg.2 hl) h
    exact this
theorem min_glb {a b c : St} (h : leP c a) (k : leP c b) : leP c (minS a b) := by
  rw [minS_eq]
  split
  · exact k
  · exact h
theorem max_l (a b : St) : leP a (maxS a b) := by
  rw [maxS_eq]
  split
  · rename_i h; have := ord_pos.1 h; unfold leP at *; omega
  · exact leP_refl a

theorem waterK_own (T : Tab) (own : St) (k : Nat) : leP (waterK T own k) own := by
  induction k with
  | zero => exact leP_refl own
  | succ k ih =>
    unfold waterK
    split
    · split
      · exact leP_trans (min_l _ _) ih
      · exact ih
    · exact ih

/-- Marks rise. -/
theorem waterK_mono {T T' : Tab} (own : St) (hs : T'.self = T.self) (hl : T'.ps.length = T.ps.length) (hm : ∀ (i : Nat) (p p' : Peer), T.ps[i]? = some p → T'.ps[i]? = some p' → leP p.mark p'.mark) (k : Nat) :
    leP (waterK T own k) (waterK T' own k) := by
  induction k with
  | zero => exact leP_refl own
  | succ k ih =>
    have ho : othB T' k = othB T k := by unfold othB; rw [hs, hl]
    unfold waterK
    rw [ho]
    cases h : T.ps[k]? with
    | none =>
      have h' : T'.ps[k]? = none := by
        rw [List.getElem?_eq_none_iff] at h ⊢; omega
      rw [h']
      exact ih
    | some p =>
      have hlt := (List.getElem?_eq_some_iff.1 h).1
      have h' : T'.ps[k]? = some (T'.ps[k]'(by omega)) := List.getElem?_eq_getElem (by omega)
      rw [h']
      simp only []
      split
      · exact min_glb (leP_trans (min_l _ _) ih) (leP_trans (min_r _ _) (hm k p _ h h'))
      · exact ih

def nextT (T : Tab) (node : Int) : Int := if otherB T.self T.ps.length node then (match T.ps[node.toNat]? with | some p => (p.n : Int) | none => 0) else 0

/-- What a feed does to a table. -/
def StepT (T : Tab) (node fr to : Int) (m : Nat) (mark : St) (b : Bool) (T' : Tab) : Prop :=
  (b = false ∧ T' = T) ∨ (b = true ∧ ∃ (j : Nat) (p : Peer) (ev' : Value), node = j ∧ T.ps[j]? = some p ∧ othB T j = true ∧ fr = p.n ∧ T' = T.put j ⟨ev', p.n + m, markOf p m to mark⟩)

theorem markOf_le (p : Peer) (l : Nat) (to : Int) (m : St) : leP p.mark (markOf p l to m) := by
  unfold markOf; split
  · exact max_l _ _
  · exact leP_refl _

theorem StepT.water {T T' : Tab} {node fr to : Int} {m : Nat} {mark : St} {b : Bool} (h : StepT T node fr to m mark b T') (own : St) : leP (waterT T own) (waterT T' own) := by
  rcases h with ⟨_, rfl⟩ | ⟨_, j, p, ev', _, hp, _, _, rfl⟩
  · exact leP_refl _
  · have hl : (T.put j ⟨ev', p.n + m, markOf p m to mark⟩).ps.length = T.ps.length := by simp [Tab.put]
    unfold waterT
    rw [hl]
    refine waterK_mono (T := T) (T' := T.put j ⟨ev', p.n + m, markOf p m to mark⟩) own rfl hl ?_ _
    intro i q q' hq hq'
    simp only [Tab.put] at hq'
    by_cases hij : i = j
    · subst hij
      rw [hp] at hq; cases hq
      rw [List.getElem?_set_self (List.getElem?_eq_some_iff.1 hp).1] at hq'
      cases hq'
      exact markOf_le _ _ _ _
    · rw [List.getElem?_set_ne (Ne.symm hij), hq] at hq'
      cases hq'
      exact leP_refl _

theorem StepT.next {T T' : Tab} {node fr to : Int} {m : Nat} {mark : St} (h : StepT T node fr to m mark true T') : nextT T' node = nextT T node + m := by
  rcases h with ⟨h, _⟩ | ⟨_, j, p, ev', rfl, hp, ho, _, rfl⟩
  · cases h
  · have hk := (List.getElem?_eq_some_iff.1 hp).1
    have e1 : otherB T.self T.ps.length (j : Int) = true := ho
    have e2 : (T.put j ⟨ev', p.n + m, markOf p m to mark⟩).ps[j]? = some ⟨ev', p.n + m, markOf p m to mark⟩ := by simp [Tab.put, List.getElem?_set_self hk]
    have e3 : (T.put j ⟨ev', p.n + m, markOf p m to mark⟩).ps.length = T.ps.length := by simp [Tab.put]
    unfold nextT
    rw [e3, show (T.put j ⟨ev', p.n + m, markOf p m to mark⟩).self = T.self from rfl, e1]
    simp only [if_true, Int.toNat_natCast, hp, e2]
    omega
/-- Of others nothing turns. -/
theorem StepT.others {T T' : Tab} {node fr to : Int} {m : Nat} {mark : St} {b : Bool} (h : StepT T node fr to m mark b T') {k : Int} (hk : k ≠ node) : nextT T' k = nextT T k := by
  rcases h with ⟨_, rfl⟩ | ⟨_, j, p, ev', rfl, hp, ho, _, rfl⟩
  · rfl
  · have e3 : (T.put j ⟨ev', p.n + m, markOf p m to mark⟩).ps.length = T.ps.length := by simp [Tab.put]
    unfold nextT
    rw [e3, show (T.put j ⟨ev', p.n + m, markOf p m to mark⟩).self = T.self from rfl]
    by_cases ho : otherB T.self T.ps.length k = true
    · rw [if_pos ho, if_pos ho]
      have h1 : 1 ≤ k := by simp [otherB] at ho; exact ho.1
      have hne : j ≠ k.toNat := by omega
      simp only [Tab.put, List.getElem?_set_ne hne]
    · rw [if_neg ho, if_neg ho]

theorem less_no {a b : St} (h : leP b a) (w : World) : Calls Try.prog 13 #[a.val, b.val] w fun e w' => e = .returned (.bool false) ∧ Below w.heap.size w w' := by
  have := less_any a b w
  rw [less_of_le h] at this
  exact this
end Go.Proofs.Ytbebofneobfngaa
