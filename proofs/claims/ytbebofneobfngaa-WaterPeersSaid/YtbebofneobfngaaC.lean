/- The greatest and the least stamp of some, walked. -/
import Derived.Test.YtbebofneobfngaaA
namespace Go.Proofs.Ytbebofneobfngaa
open Go.RowKit

theorem cmpI_bd (x y : Int) : -1 ≤ cmpI x y ∧ cmpI x y ≤ 1 := by unfold cmpI; (repeat' split) <;> omega
theorem ordI_bd (a b : St) : -1 ≤ ordI a b ∧ ordI a b ≤ 1 := by
  have h1 := cmpI_bd a.wall b.wall
  have h2 := cmpI_bd a.logic b.logic
  have h3 := cmpI_bd a.node b.node
  unfold ordI orI orI orI orI; (repeat' split) <;> omega

def pickI (way : Int) (s x : St) : St := if 0 < ordI x s * way then x else s
def mostI (way : Int) : List St → St
  | [] => ⟨0, 0, 0⟩
  | x :: l => l.foldl (pickI way) x

theorem mostI_snoc (way : Int) (l : List St) (x : St) (h : 0 < l.length) : mostI way (l ++ [x]) = pickI way (mostI way l) x := by
  match l, h with
  | y :: l, _ => simp [mostI, List.foldl_append]

def StAt (w : World) (b o : Nat) (s : St) : Prop := w.cell? ⟨b, o, none⟩ = some (.int .i64 s.wall) ∧ w.cell? ⟨b, o + 1, none⟩ = some (.int .i64 s.logic) ∧ w.cell? ⟨b, o + 2, none⟩ = some (.int .i64 s.node)

theorem StAt.below {w w' : World} {B b o : Nat} {s : St} (h : StAt w b o s) (hb : Below B w w') (hB : b < B) : StAt w' b o s :=
  ⟨(hb.cell (p := ⟨b, _, none⟩) hB).trans h.1, (hb.cell (p := ⟨b, _, none⟩) hB).trans h.2.1, (hb.cell (p := ⟨b, _, none⟩) hB).trans h.2.2⟩

def St.cells (s : St) : List Value := [.int .i64 s.wall, .int .i64 s.logic, .int .i64 s.node]
attribute [go_sem] St.cells St.val

def MostRel (B : Nat) (way : Int) (xs : List St) (w0 : World) (k : Nat) (w : World) : Prop :=
  Blk w B 24 (mostI way (xs.take k)).cells ∧ Below B w0 w

theorem pick_yes {way : Int} {s x : St} (h : 0 < ordI x s * way) : pickI way s x = x := if_pos h
theorem pick_no {way : Int} {s x : St} (h : ¬ 0 < ordI x s * way) : pickI way s x = s := if_neg h

set_option maxHeartbeats 1600000 in
theorem most_any (way : Int) (hw : way = 1 ∨ way = -1) (xs : List St) (b c : Nat) (w : World) (hl : xs.length ≤ 1000) (hb : b < w.heap.size) (hc : ∀ k x, xs[k]? = some x → StAt w b (k * 3) x) :
    Calls Try.prog 21 #[.slice (some ⟨b, 0, none⟩) xs.length c, .int .i64 way] w fun e w' => e = .returned (mostI way xs).val ∧ Below w.heap.size w w' := by
  have HW := Lib.hid hw; clear hw
  have HC := Lib.hid hc; clear hc
  unfold St.val
  go_enter Try.func21, Try.ntmps21
  go_wp2
  go_loopw [9] (fun i wr => ∃ k : Nat, k ≤ xs.length ∧ i = .int .i64 k ∧ MostRel w.heap.size way xs w k wr) (fun i _ => xs.length - (intOf i).toNat)
  case atStart => exact ⟨0, Nat.zero_le _, rfl, Blk.new _ _ _, (Below.refl _ _).al _⟩
  case round =>
    obtain ⟨k, hk, rfl, hB, hbl⟩ := hrel
    have hsz := hB.lt
    have s0 := hB.cell 0
    have s1 := hB.cell 1
    have s2 := hB.cell 2
    have hf := hB.frozen
    have f0 := hf 0
    have f1 := hf 1
    have f2 := hf 2
    simp only [St.cells, List.getElem?_cons_zero, List.getElem?_cons_succ] at s0 s1 s2
    clear hf
    by_cases hlt : k < xs.length
    · obtain ⟨x0, x1, x2⟩ := (HC.out k xs[k] (List.getElem?_eq_getElem hlt)).below hbl hb
      by_cases hz : k = 0
      · subst hz
        go_wp2
        go_round
        case rel => 
          refine ⟨1, by omega, by go_num, Blk.to (by repeat (with_reducible first | exact hB | apply Blk.alloc | apply Blk.set_)) ?_, by repeat (with_reducible first | exact hbl | refine Below.al ?_ _ | refine Below.st ?_ (Nat.le_refl _) _)⟩
          rw [take_snoc _ _ hlt]; rfl
        case measure => simp [intOf]; omega
      · have e0 : ((k : Int) == 0) = false := by simp; omega
        have hwp : wrap64 (ordI xs[k] (mostI way (xs.take k)) * way) = ordI xs[k] (mostI way (xs.take k)) * way := by
          obtain ⟨bd1, bd2⟩ := ordI_bd xs[k] (mostI way (xs.take k))
          refine wrap_in _ ?_; rcases HW.out with rfl | rfl <;> omega
        go_wp2_with (go_at_call 22; refine (order_any xs[k] (mostI way (xs.take k)) _).mono ?_; rintro e w' ⟨rfl, hbb⟩; have hB' := (hB.alloc _).ext hbb; have hX' := (Blk.new wr 24 xs[k].cells).ext hbb; have t0 := hX'.cell 0; have t1 := hX'.cell 1; have t2 := hX'.cell 2; simp only [St.cells, List.getElem?_cons_zero, List.getElem?_cons_succ] at t0 t1 t2; have u0 := hB'.cell 0; have u1 := hB'.cell 1; have u2 := hB'.cell 2; simp only [St.cells, List.getElem?_cons_zero, List.getElem?_cons_succ] at u0 u1 u2; have g0 := hB'.frozen 0; have g1 := hB'.frozen 1; have g2 := hB'.frozen 2)
        · go_round
          case rel =>
            have hy : 0 < ordI xs[k] (mostI way (xs.take k)) * way := by assumption
            refine ⟨k + 1, by omega, by go_num, (((hB'.set_ 0 _).set_ 1 _).set_ 2 _).to ?_, ((((hbl.al _).tr hbb).st (Nat.le_refl _) _).st (Nat.le_refl _) _).st (Nat.le_refl _) _⟩
            rw [take_snoc _ _ hlt, mostI_snoc _ _ _ (by simp; omega), pick_yes hy]; rfl
          case measure => simp [intOf]; omega
        · go_round
          case rel =>
            have hy : ¬ 0 < ordI xs[k] (mostI way (xs.take k)) * way := by omega
            refine ⟨k + 1, by omega, by go_num, hB'.to ?_, (hbl.al _).tr hbb⟩
            rw [take_snoc _ _ hlt, mostI_snoc _ _ _ (by simp; omega), pick_no hy]
          case measure => simp [intOf]; omega
    · go_wp2
      have hk' : k = xs.length := by omega
      subst hk'
      exact bodyPost_blk (t := 24) (cs := (mostI way xs).cells) rfl (Blk.to (by repeat (with_reducible first | exact hB | apply Blk.alloc | apply Blk.set_)) (by rw [List.take_length]; rfl)) rfl Try.underlying24 rfl (by kernel_rfl) rfl
        ⟨rfl, by repeat (with_reducible first | exact hbl | refine Below.al ?_ _ | refine Below.st ?_ (Nat.le_refl _) _)⟩
end Go.Proofs.Ytbebofneobfngaa
