/- The small comparing functions of the program, walked. -/
import Derived.Test.YtbebofneobfngaaRows
import Derived.Test.YtbebofneobfngaaZ
import Derived.WalkKit
import Derived.WalkSpells
import Derived.WalkLawsBesides
import Derived.Lib.Hide
import Derived.Deep.RegionHeld3
import Derived.Deep.QuietTactic
import Derived.BigQuiet
namespace Go.Proofs.Ytbebofneobfngaa
open Go.RowKit

def cmpI (x y : Int) : Int := if x < y then -1 else if y < x then 1 else 0

set_option maxHeartbeats 400000 in
theorem isNaN_any (x : Int) (w : World) : Calls Try.prog 25 #[.int .i64 x] w fun e w' => e = .returned (.bool false) ∧ w = w' := by
  go_enter Try.func25, Try.ntmps25
  go_wp2
  go_ret
  simp


set_option maxHeartbeats 400000 in
theorem cmp_any (x y : Int) (w : World) : Calls Try.prog 24 #[.int .i64 x, .int .i64 y] w fun e w' => e = .returned (.int .i64 (cmpI x y)) ∧ w = w' := by
  go_enter Try.func24, Try.ntmps24
  go_wp2_with (go_at_call 25; refine (isNaN_any _ _).mono ?_; rintro e w' ⟨rfl, rfl⟩)
  all_goals (go_ret; refine ⟨ret_int ?_, rfl⟩; unfold cmpI; (repeat' split) <;> omega)

def orI : List Int → Int
  | [] => 0
  | x :: l => if x = 0 then orI l else x

theorem orI_drop (l : List Int) (k : Nat) (h : k < l.length) : orI (l.drop k) = if l[k] = 0 then orI (l.drop (k + 1)) else l[k] := by
  rw [List.drop_eq_getElem_cons h]; rfl

set_option maxHeartbeats 400000 in
theorem or_any (xs : List Int) (b c : Nat) (w : World) (hl : xs.length ≤ 1000) (hc : ∀ k x, xs[k]? = some x → w.cell? ⟨b, k, none⟩ = some (.int .i64 x)) :
    Calls Try.prog 23 #[.slice (some ⟨b, 0, none⟩) xs.length c] w fun e w' => e = .returned (.int .i64 (orI xs)) ∧ w = w' := by
  have HC := Lib.hid hc; clear hc
  go_enter Try.func23, Try.ntmps23
  go_wp2
  go_loop [8] (fun i => ∃ k : Nat, k ≤ xs.length ∧ i = .int .i64 k ∧ orI (xs.drop k) = orI xs) (fun i => xs.length - (intOf i).toNat)
  case atStart => exact ⟨0, Nat.zero_le _, rfl, rfl⟩
  case round =>
    obtain ⟨k, hk, rfl, hr⟩ := hrel
    have HR := Lib.hid hr; clear hr
    by_cases hlt : k < xs.length
    · have hd := Lib.hid (orI_drop xs k hlt)
      have hck := HC.out k xs[k] (List.getElem?_eq_getElem hlt)
      go_wp2
      · go_ret
        refine ⟨ret_int ?_, rfl⟩
        have h0 : (xs[k] != 0) = true := by assumption
        rw [← HR.out, hd.out, if_neg (by simpa using h0)]
      · go_round
        case rel => exact ⟨k + 1, by omega, by go_num, by
          have h0 : (xs[k] != 0) = false := by first | assumption | (simp; assumption)
          rw [← HR.out, hd.out, if_pos (by simpa using h0)]⟩
        case measure => simp [intOf]; omega
    · go_wp2
      go_ret
      refine ⟨ret_int ?_, rfl⟩
      rw [← HR.out, List.drop_eq_nil_of_le (by omega)]; rfl

/-- The order of two stamps, as a number. -/
structure St where
  wall : Int
  logic : Int
  node : Int

def ordI (a b : St) : Int := orI [cmpI a.wall b.wall, cmpI a.logic b.logic, cmpI a.node b.node]

def St.val (a : St) : Value := .agg #[.int .i64 a.wall, .int .i64 a.logic, .int .i64 a.node]

theorem or3_any (x y z : Int) (b c : Nat) (w : World) (h0 : w.cell? ⟨b, 0, none⟩ = some (.int .i64 x)) (h1 : w.cell? ⟨b, 1, none⟩ = some (.int .i64 y)) (h2 : w.cell? ⟨b, 2, none⟩ = some (.int .i64 z)) :
    Calls Try.prog 23 #[.slice (some ⟨b, 0, none⟩) 3 c] w fun e w' => e = .returned (.int .i64 (orI [x, y, z])) ∧ w = w' := by
  refine or_any [x, y, z] b c w (by simp) ?_
  intro k v hk
  match k, hk with
  | 0, hk => simp at hk; subst hk; exact h0
  | 1, hk => simp at hk; subst hk; exact h1
  | 2, hk => simp at hk; subst hk; exact h2

set_option maxHeartbeats 800000 in
theorem order_any (a b : St) (w : World) : Calls Try.prog 22 #[a.val, b.val] w fun e w' => e = .returned (.int .i64 (ordI a b)) ∧ Below w.heap.size w w' := by
  unfold St.val
  go_enter Try.func22, Try.ntmps22
  go_wp2_with fail
  go_region_held3 (fun w' => w'.cell? ⟨w.heap.size, 0, none⟩ = some (.int .i64 a.wall) ∧ w'.cell? ⟨w.heap.size, 1, none⟩ = some (.int .i64 a.logic) ∧ w'.cell? ⟨w.heap.size, 2, none⟩ = some (.int .i64 a.node) ∧ w'.cell? ⟨w.heap.size + 1, 0, none⟩ = some (.int .i64 b.wall) ∧ w'.cell? ⟨w.heap.size + 1, 1, none⟩ = some (.int .i64 b.logic) ∧ w'.cell? ⟨w.heap.size + 1, 2, none⟩ = some (.int .i64 b.node)) (simp [go_sem, World.cell?_alloc_past])
    (first
      | (go_at_call 24; refine (cmp_any _ _ _).mono ?_; rintro e w' ⟨rfl, rfl⟩)
      | (go_at_call 23; refine (or3_any (cmpI a.wall b.wall) (cmpI a.logic b.logic) (cmpI a.node b.node) _ _ _ ?_ ?_ ?_).mono ?_; (simp [go_sem]); (simp [go_sem]); (simp [go_sem]); rintro e w' ⟨rfl, rfl⟩))
  go_wp2
  go_ret
  exact ⟨rfl, ((((Below.refl _ _).al _).al _).al _).drew⟩
end Go.Proofs.Ytbebofneobfngaa
