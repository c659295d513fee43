/- A feed of whatever kind; the next number. -/
import Derived.Test.YtbebofneobfngaaL
namespace Go.Proofs.Ytbebofneobfngaa
open Go.RowKit
attribute [local go_sem] St.cells St.val Peer.cells headC

theorem nextT_any (base tb pb : Nat) (T : Tab) (node : Int) (w : World) (h : TabAt w base tb pb T) :
    Calls Try.prog 11 #[.pointer (some ⟨tb, 0, none⟩), .int .i64 node] w fun e w' => e = .returned (.int .i64 (nextT T node)) ∧ w = w' := by
  have h0 := h.head.cell 0
  have h1 := h.head.cell 1
  unfold nextT
  cases ho : otherB T.self T.ps.length node with
  | false =>
    rw [if_neg (by simp)]
    exact next_no tb T.self T.ps.length T.ps.length _ node w h0 h1 ho
  | true =>
    rw [if_pos rfl]
    have hk : 1 ≤ node ∧ node < T.ps.length := by simp [otherB] at ho; omega
    obtain ⟨k, rfl⟩ := Int.eq_ofNat_of_zero_le (show 0 ≤ node by omega)
    have hlt : k < T.ps.length := by omega
    have hp : T.ps[k]? = some T.ps[k] := List.getElem?_eq_getElem hlt
    simp only [Int.toNat_natCast, hp]
    obtain ⟨_, xs, hown, _⟩ := h.evs k _ hp
    obtain ⟨A, c, hev⟩ := own_form hown
    have hc := (h.cells hp).1
    rw [hev] at hc
    exact next_yes tb pb T.self T.ps.length T.ps.length k A _ c w h0 h1 ho hlt hc

theorem take_any (base tb pb : Nat) (T : Tab) (node fr to : Int) (A : Option Addr) (m c : Nat) (news : List Value) (mark : St) (rv : Value) (w : World) (h : TabAt w base tb pb T)
    (hr : Reads w w.heap.size 7 A m news) (h1 : ∀ u ∈ news, u.oneCell' = true) (hl : ∀ (i : Nat) (p : Peer), T.ps[i]? = some p → p.n + m ≤ 1000000) (hbs : base ≤ w.heap.size) :
    Calls Try.prog 12 #[.pointer (some ⟨tb, 0, none⟩), .int .i64 node, feedVal fr to (.slice A m c) mark rv] w fun e w' =>
      ∃ (b : Bool) (T' : Tab), e = .returned (.bool b) ∧ StepT T node fr to m mark b T' ∧ TabAt w' base tb pb T' ∧ Below base w w' ∧ Keeps w w' := by
  have stay : ∀ e w', (e = Ending.returned (.bool false) ∧ Below w.heap.size w w') → ∃ (b : Bool) (T' : Tab), e = .returned (.bool b) ∧ StepT T node fr to m mark b T' ∧ TabAt w' base tb pb T' ∧ Below base w w' ∧ Keeps w w' :=
    fun e w' ⟨he, hb⟩ => ⟨false, T, he, .inl ⟨rfl, rfl⟩, h.ext hb, hb.mono hbs, Keeps.of_below hb⟩
  cases ho : otherB T.self T.ps.length node with
  | false => exact (take_other tb pb T.ps.length T.self node fr to _ mark rv w h.head ho).mono stay
  | true =>
    have hk : 1 ≤ node ∧ node < T.ps.length := by simp [otherB] at ho; omega
    obtain ⟨k, rfl⟩ := Int.eq_ofNat_of_zero_le (show 0 ≤ node by omega)
    have hlt : k < T.ps.length := by omega
    have hp : T.ps[k]? = some T.ps[k] := List.getElem?_eq_getElem hlt
    obtain ⟨_, xs, hown, _⟩ := h.evs k _ hp
    obtain ⟨A', c', hev⟩ := own_form hown
    have hc := (h.cells hp).1
    rw [hev] at hc
    have hlk := hl k _ hp
    by_cases hf : fr = (T.ps[k].n : Int)
    · subst hf
      by_cases hto : to < (T.ps[k].n : Int) + m
      · exact (take_total tb pb T.ps.length T.self k A' A _ c' m c to mark rv w h.head ho hlt hc (by omega) (by omega) hto).mono stay
      · refine (take_yes base tb pb T k T.ps[k] A m c news to mark rv w h hp ho hr h1 hlk hto hbs).mono ?_
        rintro e w' ⟨he, ev', hT, hb, hK, _⟩
        exact ⟨true, _, he, .inr ⟨rfl, k, T.ps[k], ev', rfl, hp, ho, rfl, rfl⟩, hT, hb, hK.all⟩
    · exact (take_from tb pb T.ps.length T.self k A' _ c' fr to _ mark rv w h.head ho hlt hc (by simp [hf])).mono stay
end Go.Proofs.Ytbebofneobfngaa
