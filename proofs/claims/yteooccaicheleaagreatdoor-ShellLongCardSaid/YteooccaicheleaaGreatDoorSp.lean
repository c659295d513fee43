/- The last piece of a text that is split at a byte. -/
import Derived.Lib.SplitLaws
namespace Go.Proofs.YteooccaicheleaaGreatDoor.X
open Go.Lib

/-! ### The last piece of a text that is split at a byte -/
theorem index_cons_eq (c : UInt8) (l : List UInt8) : index (c :: l) [c] = ((0 : Nat) : Int) := by rw [index]; simp [List.isPrefixOf]
theorem index_cons_ne {b c : UInt8} (l : List UInt8) (h : b ≠ c) : index (b :: l) [c] = if index l [c] == -1 then -1 else index l [c] + 1 := by
  have hp : ([c] : List UInt8).isPrefixOf (b :: l) = false := by simp [List.isPrefixOf, Ne.symm h]
  rw [index, hp]; simp
theorem splitK_zero (sep : List UInt8) (l : List UInt8) : splitK sep 0 0 l = [l] := rfl
theorem splitK_hit (sep : List UInt8) (k : Nat) (l : List UInt8) (i : Nat) (h : index l sep = i) : splitK sep 0 (k + 1) l = l.take i :: splitK sep 0 k (l.drop (i + sep.length)) := by
  have e : splitK sep 0 (k + 1) l = if index l sep == -1 then [l] else l.take ((index l sep).toNat + 0) :: splitK sep 0 k (l.drop ((index l sep).toNat + sep.length)) := rfl
  have hne : ¬ (index l sep == -1) = true := fun e => by have := beq_iff_eq.1 e; omega
  rw [e, if_neg hne, h]
  rfl
theorem splitK_ne (sep : List UInt8) : ∀ (k : Nat) (l : List UInt8), splitK sep 0 k l ≠ []
  | 0, _ => by simp [splitK]
  | k + 1, l => by unfold splitK; split <;> simp
theorem last_cons {α : Type} (x : α) {l : List α} (h : l ≠ []) : (x :: l).getLast? = l.getLast? := by
  cases l with
  | nil => exact absurd rfl h
  | cons y l => rfl
theorem split_last (c : UInt8) : ∀ l : List UInt8, (splitK [c] 0 (count l [c]) l).getLast? = some [] ↔ (l = [] ∨ l.getLast? = some c)
  | [] => by
    rw [count_miss (by simp [index]), splitK_zero]; simp
  | b :: l => by
    by_cases hb : b = c
    · subst hb
      rw [count_cons_eq, Nat.add_comm, splitK_hit [b] _ _ 0 (index_cons_eq b l), last_cons _ (splitK_ne _ _ _)]
      show (splitK [b] 0 (count l [b]) l).getLast? = some [] ↔ _
      rw [split_last b l]
      cases l with
      | nil => simp
      | cons x l => simp
    · rw [count_cons_ne b c l hb]
      by_cases hm : index l [c] = -1
      · rw [count_miss hm, splitK_zero]
        have hl := split_last c l
        rw [count_miss hm, splitK_zero] at hl
        cases l with
        | nil => simp [hb]
        | cons x l => simp at hl ⊢; exact hl
      · have hge := index_ge l [c]
        obtain ⟨j, hj⟩ : ∃ j : Nat, index l [c] = j := ⟨(index l [c]).toNat, by omega⟩
        have hix : index (b :: l) [c] = ((j + 1 : Nat) : Int) := by rw [index_cons_ne l hb, if_neg (fun e => hm (beq_iff_eq.1 e)), hj]; omega
        have hl := split_last c l
        rw [count_hit (by simp) hj, Nat.add_comm] at hl ⊢
        rw [splitK_hit [c] _ _ j hj, last_cons _ (splitK_ne _ _ _)] at hl
        rw [splitK_hit [c] _ _ (j + 1) hix, last_cons _ (splitK_ne _ _ _)]
        have e : (b :: l).drop (j + 1 + [c].length) = l.drop (j + [c].length) := by simp
        rw [e, hl]
        cases l with
        | nil => simp [index] at hj
        | cons x l => simp
end Go.Proofs.YteooccaicheleaaGreatDoor.X
