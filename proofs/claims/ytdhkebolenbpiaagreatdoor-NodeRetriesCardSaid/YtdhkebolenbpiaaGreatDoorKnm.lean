/- A runner for closed calls, part 13: Zy Zt Zv Zn Zr. -/
import Derived.Test.YtdhkebolenbpiaaGreatDoorKnl
import Derived.Lib.Bytealg
import Derived.Lib.LaidTab
import Derived.Lib.ItoaNum
import Derived.Lib.AtoiAll
import Derived.Lib.ItoaMem
import GoSem.ClaimFn
namespace Go.Proofs.YtdhkebolenbpiaaGreatDoor.X
open Go.RowKit

/-! ### Calls that were run before: known at any heap of the same shape -/
noncomputable def sgm (G N0 N big : Nat) (t : Tr Nat) (i : Nat) : Nat :=
  iff' (Nat.blt i G) i (iff' (Nat.ble N0 i) (N + (i - N0))
    (Option.rec (motive := fun _ => Nat) (big + i) (fun j => iff' (Nat.ble G j && Nat.blt j N) j (big + i)) ((getB i).use t)))
structure SgOk (G N0 N N2 : Nat) (σ : Nat → Nat) : Prop where
  low : ∀ i, i < G → σ i = i
  new : ∀ i, N0 ≤ i → G ≤ i → σ i = N + (i - N0)
  mid : ∀ i, G ≤ i → i < N0 → (G ≤ σ i ∧ σ i < N) ∨ N + N2 ≤ σ i
theorem sgm_ok (G N0 N N2 : Nat) (t : Tr Nat) : SgOk G N0 N N2 (sgm G N0 N (N + N2) t) := by
  have hlt : ∀ {a c : Nat}, Nat.blt a c = true ↔ a < c := fun {a c} => ⟨Nat.le_of_ble_eq_true, fun h => Nat.ble_eq_true_of_le h⟩
  refine ⟨fun i h => ?_, fun i h hG => ?_, fun i hG h => ?_⟩
  · unfold sgm
    rw [iff_eq, hlt.2 h]; rfl
  · unfold sgm
    have h1 : Nat.blt i G = false := Bool.eq_false_iff.2 fun e => by have := hlt.1 e; omega
    rw [iff_eq, h1, cond_false, iff_eq, Nat.ble_eq_true_of_le h]; rfl
  · unfold sgm
    have h1 : Nat.blt i G = false := Bool.eq_false_iff.2 fun e => by have := hlt.1 e; omega
    have h2 : Nat.ble N0 i = false := Bool.eq_false_iff.2 fun e => by have := Nat.le_of_ble_eq_true e; omega
    rw [iff_eq, h1, cond_false, iff_eq, h2, cond_false]
    cases (getB i).use t with
    | none => exact .inr (by show N + N2 ≤ N + N2 + i; omega)
    | some j =>
      show _ ∨ N + N2 ≤ iff' (Nat.ble G j && Nat.blt j N) j (N + N2 + i)
      dsimp only
      rw [iff_eq]
      cases hc : (Nat.ble G j && Nat.blt j N) with
      | true =>
        rw [Bool.and_eq_true] at hc
        exact .inl ⟨Nat.le_of_ble_eq_true hc.1, hlt.1 hc.2⟩
      | false => exact .inr (by show N + N2 ≤ N + N2 + i; omega)

/-- Which id is which: found, not proved. -/
noncomputable def uA (a b : Nat) (t : Tr Nat) : Tr Nat := Option.rec (motive := fun _ => Tr Nat) ((setB a).use b t) (fun _ => t) ((getB a).use t)
mutual
noncomputable def uV : Value → Value → Tr Nat → Tr Nat
  | .pointer (some a), .pointer (some b), t => uA a.block b.block t
  | .slice (some a) _ _, .slice (some b) _ _, t => uA a.block b.block t
  | .map (some a), .map (some b), t => uA a b t
  | .agg ⟨a⟩, .agg ⟨b⟩, t => uL a b t
  | .iface _ a, .iface _ b, t => uV a b t
  | .func _ ⟨a⟩ ⟨b⟩, .func _ ⟨c⟩ ⟨d⟩, t => uL b d (uL a c t)
  | _, _, t => t
noncomputable def uL : List Value → List Value → Tr Nat → Tr Nat
  | v :: l, w :: m, t => uL l m (uV v w t)
  | _, _, t => t
end
noncomputable def uEs : List MapEntry → List MapEntry → Tr Nat → Tr Nat
  | v :: l, w :: m, t => uEs l m (uV v.val w.val (uV v.key w.key t))
  | _, _, t => t
noncomputable def uO (o o' : AO) (t : Tr Nat) : Tr Nat :=
  match o, o' with
  | .row a _ _, .row b _ _ => uL a b t
  | .obj (.map ⟨a⟩ _), .obj (.map ⟨b⟩ _) => uEs a b t
  | _, _ => t
noncomputable def uAll (G : Nat) (h : Tr AO) (l : Ents) : Tr Nat → Tr Nat :=
  List.rec (motive := fun _ => Tr Nat → Tr Nat) (fun t => t) (fun p _ go t =>
    iff' (Nat.blt p.1 G) (go t) (Option.rec (motive := fun _ => Tr Nat) t (fun j => Option.rec (motive := fun _ => Tr Nat) t (fun o => go (uO p.2 o t)) ((getB j).use h)) ((getB p.1).use t))) l

section
variable (σ : Nat → Nat)
noncomputable def subR (l : Ents) (t : Tr AO) : Bool := List.rec (motive := fun _ => Bool) true (fun p _ r => iff' (sameO ((getB (σ p.1)).use t) (renO σ p.2)) r false) l
noncomputable def renD (l : Ents) : Ents := List.rec (motive := fun _ => Ents) [] (fun p _ r => (σ p.1, renO σ p.2) :: r) l
/-- Each image has one source. -/
noncomputable def injL (l : Ents) : Tr Nat → Bool :=
  List.rec (motive := fun _ => Tr Nat → Bool) (fun _ => true) (fun p _ go t => Option.rec (motive := fun _ => Bool) (go ((setB (σ p.1)).use p.1 t)) (fun _ => false) ((getB (σ p.1)).use t)) l
noncomputable def liveD (l : Ents) : Bool := List.rec (motive := fun _ => Bool) true (fun p _ r => iff' (isDead p.2) r (iff' (isDead (renO σ p.2)) false r)) l
noncomputable def ltD (n : Nat) (l : Ents) : Bool := List.rec (motive := fun _ => Bool) true (fun p _ r => iff' (Nat.blt (σ p.1) n) r false) l
end
noncomputable def KR1 (g : Seg) (args : List Value) (s : St) (σ : Nat → Nat) : Option (Value × St) :=
  iff' (samesF (renL σ g.args) args && (subR σ g.st s.heap && (injL σ g.st .nil && (liveD σ g.st && ltD σ (s.next + (g.next2 - g.next)) g.diff))))
    (some (ren σ g.v, { heap := setAll (renD σ g.diff) s.heap, next := s.next + (g.next2 - g.next) })) none
noncomputable def KR (G : Nat) (g : Seg) (f : FuncId) (args : List Value) (s : St) : Option (Value × St) :=
  iff' (Nat.beq f g.f)
    (iff' (samesF (renL (sgm G g.next s.next (s.next + g.next2) (uL g.args args .nil)) g.args) args)
      (KR1 g args s (sgm G g.next s.next (s.next + g.next2) (uAll G s.heap g.st (uL g.args args .nil)))) none) none

section
variable {σ : Nat → Nat}
theorem subR_get {t : Tr AO} : ∀ {l : Ents}, subR σ l t = true → ∀ p ∈ l, t.get (σ p.1) = some (renO σ p.2)
  | [], _, _, h => by cases h
  | q :: l, h, p, hp => by
    have h' : iff' (sameO ((getB (σ q.1)).use t) (renO σ q.2)) (subR σ l t) false = true := h
    rw [iff_eq, getB_eq] at h'
    cases hv : sameO (t.get (σ q.1)) (renO σ q.2) with
    | false => rw [hv] at h'; cases h'
    | true =>
      rw [hv] at h'
      rcases List.mem_cons.1 hp with rfl | hp
      · exact sameO_eq hv
      · exact subR_get h' p hp
theorem injL_mem : ∀ {l : Ents} {t : Tr Nat}, injL σ l t = true → (∀ p ∈ l, t.get (σ p.1) = none) ∧ ∀ p ∈ l, ∀ q ∈ l, σ p.1 = σ q.1 → p.1 = q.1
  | [], _, _ => And.intro (fun _ h => by cases h) (fun _ h => by cases h)
  | q :: l, t, h => by
    have h' : Option.rec (motive := fun _ => Bool) (injL σ l ((setB (σ q.1)).use q.1 t)) (fun _ => false) ((getB (σ q.1)).use t) = true := h
    rw [getB_eq, setB_eq] at h'
    cases hv : t.get (σ q.1) with
    | some _ => rw [hv] at h'; cases h'
    | none =>
      rw [hv] at h'
      have h' : injL σ l (t.set (σ q.1) q.1) = true := h'
      obtain ⟨g1, g2⟩ := injL_mem h'
      have hne : ∀ p ∈ l, σ p.1 ≠ σ q.1 ∧ t.get (σ p.1) = none := fun p hp => by
        have := g1 p hp
        rw [Tr.get_set] at this
        by_cases he : σ p.1 = σ q.1
        · rw [if_pos he] at this; cases this
        · rw [if_neg he] at this; exact ⟨he, this⟩
      refine ⟨fun p hp => ?_, fun p hp p' hp' e => ?_⟩
      · rcases List.mem_cons.1 hp with rfl | hpl
        · exact hv
        · exact (hne p hpl).2
      · rcases List.mem_cons.1 hp with rfl | hpl
        · rcases List.mem_cons.1 hp' with rfl | hpl'
          · rfl
          · exact absurd e.symm (hne _ hpl').1
        · rcases List.mem_cons.1 hp' with e1 | hpl'
          · rw [e1] at e
            exact absurd e (hne _ hpl).1
          · exact g2 p hpl p' hpl' e
theorem liveD_mem : ∀ {l : Ents}, liveD σ l = true → ∀ p ∈ l, p.2 ≠ .dead → renO σ p.2 ≠ .dead
  | [], _, _, h => by cases h
  | q :: l, h, p, hp => by
    have h' : iff' (isDead q.2) (liveD σ l) (iff' (isDead (renO σ q.2)) false (liveD σ l)) = true := h
    rw [iff_eq, iff_eq] at h'
    have hrest : liveD σ l = true := by
      revert h'
      cases isDead q.2 <;> cases isDead (renO σ q.2) <;> intro h' <;> first | exact h' | cases h'
    rcases List.mem_cons.1 hp with rfl | hp
    · intro hd hr
      rw [hr] at h'
      cases hq : p.2 <;> rw [hq] at h' hd <;> first | exact hd rfl | cases h'
    · exact liveD_mem hrest p hp
theorem ltD_mem {n : Nat} : ∀ {l : Ents}, ltD σ n l = true → ∀ p ∈ l, σ p.1 < n
  | [], _, _, h => by cases h
  | q :: l, h, p, hp => by
    have h' : iff' (Nat.blt (σ q.1) n) (ltD σ n l) false = true := h
    rw [iff_eq] at h'
    cases hv : Nat.blt (σ q.1) n with
    | false => rw [hv] at h'; cases h'
    | true =>
      rw [hv] at h'
      rcases List.mem_cons.1 hp with rfl | hp
      · exact Nat.le_of_ble_eq_true hv
      · exact ltD_mem h' p hp
theorem renD_mem : ∀ {l : Ents} {j : Nat} {o : AO}, (j, o) ∈ renD σ l → ∃ i o0, (i, o0) ∈ l ∧ j = σ i ∧ o = renO σ o0
  | [], _, _, h => by cases h
  | q :: l, j, o, h => by
    have h : (j, o) ∈ (σ q.1, renO σ q.2) :: renD σ l := h
    rcases List.mem_cons.1 h with e | h
    · injection e with e1 e2
      exact ⟨q.1, q.2, by simp, e1, e2⟩
    · obtain ⟨i, o0, h1, h2, h3⟩ := renD_mem h
      exact ⟨i, o0, by simp [h1], h2, h3⟩
theorem renD_has : ∀ {l : Ents} {i : Nat}, hasId l i = true → hasId (renD σ l) (σ i) = true
  | [], _, h => by cases h
  | q :: l, i, h => by
    have h' : iff' (Nat.beq q.1 i) true (hasId l i) = true := h
    show iff' (Nat.beq (σ q.1) (σ i)) true (hasId (renD σ l) (σ i)) = true
    rw [iff_eq] at h' ⊢
    cases hb : Nat.beq q.1 i with
    | true =>
      rw [Nat.eq_of_beq_eq_true hb, Nat.beq_refl]; rfl
    | false =>
      rw [hb] at h'
      rw [renD_has h']
      cases Nat.beq (σ q.1) (σ i) <;> rfl

variable {P : Program} {G V : Nat} {K : FuncId → List Value → St → Option (Value × St)}
set_option maxHeartbeats 1000000 in
theorem known_KR (hD : DrawOk P G) (hK : Known P G V K) {n : Nat} (g : Seg) (hwf : g.wf G = true) (hGn : Nat.ble G g.next = true) (hrun : g.ends ((goK P G K n).call g.f g.args g.start) = true) : Known P G V (KR G g) := by
  intro f args s v s2 hk b ρ w args' hbG hw hl cs
  unfold KR at hk
  rw [iff_eq, iff_eq] at hk
  cases h1 : Nat.beq f g.f with
  | false => rw [h1] at hk; cases hk
  | true =>
  rw [h1, cond_true] at hk
  cases h2 : samesF (renL (sgm G g.next s.next (s.next + g.next2) (uL g.args args .nil)) g.args) args with
  | false => rw [h2] at hk; cases hk
  | true =>
  rw [h2, cond_true] at hk
  have hσ := sgm_ok G g.next s.next g.next2 (uAll G s.heap g.st (uL g.args args .nil))
  generalize sgm G g.next s.next (s.next + g.next2) (uAll G s.heap g.st (uL g.args args .nil)) = σ at hk hσ
  clear h2
  unfold KR1 at hk
  rw [iff_eq] at hk
  obtain ⟨hc, hk⟩ := bif_some hk
  injection hk with hk
  injection hk with e1 e2
  subst e1; subst e2
  have := Nat.eq_of_beq_eq_true h1
  subst this
  simp only [Bool.and_eq_true] at hc
  obtain ⟨h4, hsub, hinj, hlive, hltD⟩ := hc
  have hargs := samesF_eq h4
  subst hargs
  have hG : b.G = G := by injection hbG
  have hGN0 := Nat.le_of_ble_eq_true hGn
  unfold Seg.wf at hwf
  rw [Bool.and_eq_true] at hwf
  have hbase := hw.base
  have sget : ∀ i o, g.start.heap.get i = some o → s.heap.get (σ i) = some (renO σ o) := fun i o h => subR_get hsub _ (start_get g i o h)
  have slt : ∀ i o, g.start.heap.get i = some o → i < g.next ∧ o ≠ .dead := fun i o h => wfL_mem hwf.1 _ (start_get g i o h)
  have sfresh : ∀ j o, s.heap.get j = some o → j < s.next := fun j o h => by
    rcases Nat.lt_or_ge j s.next with h' | h'
    · exact h'
    · have := hw.fresh j h'; rw [this] at h; cases h
  have sinj : ∀ i j o o', g.start.heap.get i = some o → g.start.heap.get j = some o' → σ i = σ j → i = j := fun i j o o' hi hj e => (injL_mem hinj).2 _ (start_get g i o hi) _ (start_get g j o' hj) e
  have sGe : ∀ i, G ≤ i → G ≤ σ i := fun i hi => by
    rcases Nat.lt_or_ge i g.next with h | h
    · rcases hσ.mid i hi h with h | h <;> omega
    · rw [hσ.new i h hi]; omega
  have rdom : ∀ i l, ρ (σ i) = some l → i < g.next := fun i l hl => by
    have h := hw.dom _ l hl
    rcases Nat.lt_or_ge i g.next with h' | h'
    · exact h'
    · rw [hσ.new i h' (by omega)] at h; omega
  obtain ⟨v, S2, hcall⟩ : ∃ v S2, (goK P G K n).call g.f g.args g.start = .ok v S2 := by
    cases hc : (goK P G K n).call g.f g.args g.start with
    | ok v S2 => exact ⟨v, S2, rfl⟩
    | no a c => rw [hc] at hrun; cases hrun
  rw [hcall] at hrun
  simp only [Seg.ends, Bool.and_eq_true] at hrun
  obtain ⟨⟨hv, hn2⟩, hdiff, hrest⟩ := hrun
  rw [sameF_eq] at hv
  have hv := same_eq hv
  subst hv
  have hn2 := Nat.eq_of_beq_eq_true hn2
  let b' : Base := ⟨b.G, b.B, w, b.val, fun k => b.prot k ∨ ∃ j o l, s.heap.get j = some o ∧ o ≠ .dead ∧ ρ j = some l ∧ l.blk = k ∧ ∀ i o', g.start.heap.get i = some o' → renO σ o' ≠ .dead → σ i ≠ j⟩
  have hnd : ∀ i o, g.start.heap.get i = some o → renO σ o ≠ .dead := fun i o hi => liveD_mem hlive _ (start_get g i o hi) (slt i o hi).2
  have rend : ∀ o : AO, renO σ o ≠ .dead → o ≠ .dead := fun o h e => by subst e; exact h rfl
  have hwS : WRel P b' (fun i => ρ (σ i)) g.start w := by
    refine ⟨fun i o l hi hd hl => ?_, fun i j o o' l l' hne hi hd hj hd' hl hl' => hw.inj (σ i) (σ j) _ _ l l' (fun e => hne (sinj i j o o' hi hj e)) (sget i o hi) (hnd i o hi) (sget j o' hj) (hnd j o' hj) hl hl', fun i l hl => rdom i l hl, fun i hi => ?_, fun i l hi hl => ?_, fun q hq => ?_, ?_, hw.size, .refl _ _, ?_, ?_⟩
    · obtain ⟨x, h1, h2⟩ := hw.heap (σ i) _ l (sget i o hi) (hnd i o hi) hl
      exact ⟨x, h1, ORel.renB (hnd i o hi) h2⟩
    · have hi : g.next ≤ i := hi
      cases hc : g.start.heap.get i with
      | none => rfl
      | some o => have := (slt i o hc).1; omega
    · have hi : b.G ≤ i := hi
      have := sGe i (by omega)
      exact hw.low (σ i) l (by omega) hl
    · have hq : q < b.G := hq
      rw [hσ.low q (by omega)]
      exact hw.glob q hq
    · show b.G ≤ g.next
      omega
    · intro i o l hGi hi hd hl hp
      have hGi : b.G ≤ i := hGi
      have hgi := sGe i (by omega)
      rcases hp with hp | ⟨j, o', l', hj, hd', hl', hb, hn⟩
      · exact hw.apart (σ i) _ l (by omega) (sget i o hi) (hnd i o hi) hl hp
      · exact hw.inj (σ i) j _ o' l l' (hn i o hi (hnd i o hi)) (sget i o hi) (hnd i o hi) hj hd' hl hl' hb.symm
    · intro k hp
      refine ⟨?_, rfl⟩
      rcases hp with hp | ⟨j, o', l', hj, hd', hl', hb, hn⟩
      · exact hw.kept_lt hp
      · obtain ⟨x, hx, _⟩ := hw.heap j o' l' hj hd' hl'
        rw [← hb]
        exact (Array.getElem?_eq_some_iff.1 hx).1
  obtain ⟨ρ2, v', w', hok, hvr, fr, hst, hfn, hlv⟩ := (goK_ok hD hK n).call hcall (b := b') hbG hwS (LRel.renB hl) cs
  have hS2n : g.next ≤ S2.next := hok.next
  -- the renaming behind
  let ρ' : Ren := fun j => if j < s.next then ρ j else if j < s.next + (S2.next - g.next) then ρ2 (g.next + (j - s.next)) else none
  have hlow' : ∀ j, j < s.next → ρ' j = ρ j := fun j hj => if_pos hj
  have hnew' : ∀ j, s.next ≤ j → j < s.next + (S2.next - g.next) → ρ' j = ρ2 (g.next + (j - s.next)) := fun j hj hj' => by
    show (if j < s.next then ρ j else _) = _
    rw [if_neg (by omega), if_pos hj']
  have hbig' : ∀ j, s.next + (S2.next - g.next) ≤ j → ρ' j = none := fun j hj => by
    show (if j < s.next then ρ j else _) = _
    rw [if_neg (by omega), if_neg (by omega)]
  have hρ : ρ2 = fun i => ρ' (σ i) := by
    funext i
    show ρ2 i = ρ' (σ i)
    by_cases hi : i < g.next
    · have he : ρ2 i = ρ (σ i) := hok.ext i hi
      rw [he]
      by_cases hGi : i < G
      · rw [hσ.low i hGi, hlow' i (by omega)]
      · rcases hσ.mid i (by omega) hi with h | h
        · rw [hlow' _ h.2]
        · rw [hbig' _ (by omega)]
          cases hr : ρ (σ i) with
          | none => rfl
          | some l => have := hw.dom _ l hr; omega
    · have hs := hσ.new i (by omega) (by omega)
      by_cases hi2 : i < S2.next
      · rw [hs, hnew' _ (by omega) (by omega)]
        congr 1
        omega
      · rw [hs, hbig' _ (by omega)]
        cases hr : ρ2 i with
        | none => rfl
        | some l => have := hok.rel.dom i l hr; omega
  rw [hρ] at hok hvr
  clear_value ρ'
  refine ⟨ρ', v', w', ?_, VRel.renT hvr, fr, hst, hfn, hlv⟩
  have hle : ρ.Le ρ' := fun i l h => by rw [hlow' i (hw.dom i l h)]; exact h
  have hrelO : ∀ {l : Loc} {o : AO} {o' : Obj}, renO σ o ≠ .dead → ORel P (fun i => ρ' (σ i)) l o o' → ORel P ρ' l (renO σ o) o' := fun hd h => (ORel.renT h).resolve_left hd
  have hnx2 : g.next2 = S2.next := hn2.symm
  -- what lies behind: from the segment, or as it was
  have key : ∀ j o, (setAll (renD σ g.diff) s.heap).get j = some o → (∃ i o0, j = σ i ∧ o = renO σ o0 ∧ S2.heap.get i = some o0 ∧ (g.start.heap.get i = none → ∃ x, (i, x) ∈ g.diff)) ∨ (hasId (renD σ g.diff) j = false ∧ s.heap.get j = some o ∧ ∀ i o', g.start.heap.get i = some o' → renO σ o' ≠ .dead → σ i ≠ j) := fun j o hj => by
    rcases setAll_get s.heap j (renD σ g.diff) with ⟨q1, q2⟩ | ⟨o', q1, q2⟩
    · rw [q2] at hj
      by_cases hex : ∃ i o', g.start.heap.get i = some o' ∧ renO σ o' ≠ .dead ∧ σ i = j
      · obtain ⟨i, o0, h1, h2, rfl⟩ := hex
        have := sget i o0 h1
        rw [hj] at this
        injection this with this
        subst this
        refine .inl ⟨i, o0, rfl, rfl, restAll_get hrest _ (start_get g i o0 h1) ?_, fun h => by rw [h] at h1; cases h1⟩
        cases hh : hasId g.diff i with
        | false => rfl
        | true => rw [renD_has hh] at q1; cases q1
      · exact .inr ⟨q1, hj, fun i o' h1 h2 h3 => hex ⟨i, o', h1, h2, h3⟩⟩
    · rw [q2] at hj
      injection hj with hj
      subst hj
      obtain ⟨i, o0, h1, h2, h3⟩ := renD_mem q1
      exact .inl ⟨i, o0, h2, h3, subAll_get hdiff _ h1, fun _ => ⟨o0, h1⟩⟩
  have hgarb : ∀ j o l, s.heap.get j = some o → o ≠ .dead → (∀ i o', g.start.heap.get i = some o' → renO σ o' ≠ .dead → σ i ≠ j) → ρ' j = some l → ρ j = some l ∧ b'.prot l.blk := fun j o l hj hd hn hl => by
    have hr : ρ j = some l := (hlow' j (sfresh j o hj)).symm.trans hl
    exact ⟨hr, .inr ⟨j, o, l, hj, hd, hr, rfl, hn⟩⟩
  have hdisj : ∀ i o0 j o' l l', S2.heap.get i = some o0 → o0 ≠ .dead → (setAll (renD σ g.diff) s.heap).get (σ i) = some (renO σ o0) → renO σ o0 ≠ .dead → s.heap.get j = some o' → o' ≠ .dead → (∀ i o', g.start.heap.get i = some o' → renO σ o' ≠ .dead → σ i ≠ j) → ρ' (σ i) = some l → ρ' j = some l' → σ i ≠ j → l.blk ≠ l'.blk := fun i o0 j o' l l' hi hd hs2 hd2 hj hd' hn hl hl' hne => by
    obtain ⟨r1, r2⟩ := hgarb j o' l' hj hd' hn hl'
    by_cases hGi : b.G ≤ i
    · intro e
      exact hok.rel.apart i o0 l hGi hi hd hl (by rw [e]; exact r2)
    · rcases setAll_get s.heap (σ i) (renD σ g.diff) with ⟨q1, q2⟩ | ⟨o2, q1, q2⟩
      · rw [q2] at hs2
        have hri : ρ (σ i) = some l := (hlow' _ (sfresh _ _ hs2)).symm.trans hl
        exact hw.inj (σ i) j _ o' l l' hne hs2 hd2 hj hd' hri r1
      · obtain ⟨i2, o3, h1, h2, h3⟩ := renD_mem q1
        have := geL_mem hwf.2 _ h1
        dsimp only at this
        have h4 := sGe i2 this
        rw [← h2, hσ.low i (by omega)] at h4
        omega
  refine ⟨hlow', Nat.le_add_right _ _, fun j hj hn => ?_, ?_⟩
  · -- pend
    dsimp only
    rcases setAll_get s.heap j (renD σ g.diff) with ⟨_, q2⟩ | ⟨o, q1, q2⟩
    · exact q2
    · rw [q2]
      obtain ⟨i, o0, h1, rfl, rfl⟩ := renD_mem q1
      have h5 := subAll_get hdiff _ h1
      dsimp only at h5
      have hlt : i < g.next := by
        rcases Nat.lt_or_ge i g.next with h | h
        · exact h
        · have := geL_mem hwf.2 _ h1
          rw [hσ.new i h this] at hj; omega
      have hp := hok.pend i hlt hn
      rw [h5] at hp
      exact (sget i o0 hp.symm).symm
  · refine ⟨fun j o l hj hd hl => ?_, fun j j' o o' l l' hne hj hd hj' hd' hl hl' => ?_, fun j l hl => ?_, fun j hj => ?_, fun j l hGj hl => ?_, fun q hq => ?_, ?_, ?_, ?_, fun j o l hGj hj hd hl => ?_, fun k hk => ?_⟩
    · rcases key j o hj with ⟨i, o0, rfl, rfl, h, _⟩ | ⟨_, h, hn⟩
      · obtain ⟨x, hx, hr⟩ := hok.rel.heap i o0 l h (rend o0 hd) hl
        exact ⟨x, hx, hrelO hd hr⟩
      · obtain ⟨r1, r2⟩ := hgarb j o l h hd hn hl
        obtain ⟨x, hx, hr⟩ := hw.heap j o l h hd r1
        exact ⟨x, (hok.rel.kept _ r2).2.trans hx, hr.mono hle⟩
    · rcases key j o hj with ⟨i, o0, rfl, rfl, h, _⟩ | ⟨_, h, hn⟩
      · rcases key j' o' hj' with ⟨i', o0', rfl, rfl, h', _⟩ | ⟨_, h', hn'⟩
        · exact hok.rel.inj i i' o0 o0' l l' (fun e => hne (by rw [e])) h (rend o0 hd) h' (rend o0' hd') hl hl'
        · exact hdisj i o0 j' o' l l' h (rend o0 hd) hj hd h' hd' hn' hl hl' hne
      · rcases key j' o' hj' with ⟨i', o0', rfl, rfl, h', _⟩ | ⟨_, h', hn'⟩
        · exact fun e => hdisj i' o0' j o l' l h' (rend o0' hd') hj' hd' h hd hn hl' hl (fun e => hne e.symm) e.symm
        · exact hw.inj j j' o o' l l' hne h hd h' hd' (hgarb j o l h hd hn hl).1 (hgarb j' o' l' h' hd' hn' hl').1
    · show j < s.next + (g.next2 - g.next)
      rcases Nat.lt_or_ge j (s.next + (S2.next - g.next)) with h | h
      · rw [hnx2]; exact h
      · rw [hbig' j h] at hl; cases hl
    · have hj : s.next + (g.next2 - g.next) ≤ j := hj
      dsimp only
      rcases setAll_get s.heap j (renD σ g.diff) with ⟨_, q2⟩ | ⟨o, q1, q2⟩
      · rw [q2]; exact hw.fresh j (by omega)
      · obtain ⟨i, o0, h1, h2, _⟩ := renD_mem q1
        have := ltD_mem hltD _ h1
        dsimp only at this
        omega
    · rcases Nat.lt_or_ge j s.next with h | h
      · rw [hlow' j h] at hl; exact hw.low j l hGj hl
      · rcases Nat.lt_or_ge j (s.next + (S2.next - g.next)) with h2 | h2
        · have hs := hσ.new (g.next + (j - s.next)) (by omega) (by omega)
          have he : σ (g.next + (j - s.next)) = j := by rw [hs]; omega
          exact hok.rel.low (g.next + (j - s.next)) l (by show b.G ≤ _; omega) (by show ρ' (σ _) = _; rw [he]; exact hl)
        · rw [hbig' j h2] at hl; cases hl
    · rw [hlow' q (by omega)]; exact hw.glob q hq
    · show b.G ≤ s.next + (g.next2 - g.next)
      omega
    · exact hok.rel.size
    · exact hw.below.trans (hok.rel.below)
    · rcases key j o hj with ⟨i, o0, rfl, rfl, h, _⟩ | ⟨_, h, hn⟩
      · intro hp
        have hGi : b.G ≤ i := by
          rcases Nat.lt_or_ge i b.G with h' | h'
          · rw [hσ.low i (by omega)] at hGj; omega
          · exact h'
        exact hok.rel.apart i o0 l hGi h (rend o0 hd) hl (.inl hp)
      · exact hw.apart j o l hGj h hd (hgarb j o l h hd hn hl).1
    · exact ⟨(hw.kept k hk).1, (hok.rel.kept k (.inl hk)).2.trans (hw.kept k hk).2⟩
theorem known_KRF (hm : P.follows .mixedOrders = true) (hK : Known P G V K) {n : Nat} (g : Seg) (hwf : g.wf G = true) (hGn : Nat.ble G g.next = true) (hrun : g.ends ((goF P G K n).call g.f g.args g.start) = true) : Known P G V (KR G g) :=
  known_KR (draw_ok hm G) hK g hwf hGn (by rw [← goF_eq]; exact hrun)
/-- Many of these, for some functions. -/
noncomputable def KM (G : Nat) (fs : List FuncId) (gs : List Seg) (f : FuncId) (args : List Value) (s : St) : Option (Value × St) :=
  iff' (fs.any (Nat.beq f)) (List.rec (motive := fun _ => Option (Value × St)) none (fun g _ r => Option.rec (motive := fun _ => Option (Value × St)) r (fun x => some x) (KR G g f args s)) gs) none
theorem KM_mem {f : FuncId} {args : List Value} {s : St} {x : Value × St} : ∀ {gs : List Seg}, List.rec (motive := fun _ => Option (Value × St)) none (fun g _ r => Option.rec (motive := fun _ => Option (Value × St)) r (fun x => some x) (KR G g f args s)) gs = some x → ∃ g ∈ gs, KR G g f args s = some x
  | [], h => by cases h
  | g :: gs, h => by
    have h' : Option.rec (motive := fun _ => Option (Value × St)) (List.rec (motive := fun _ => Option (Value × St)) none (fun g _ r => Option.rec (motive := fun _ => Option (Value × St)) r (fun x => some x) (KR G g f args s)) gs) (fun x => some x) (KR G g f args s) = some x := h
    cases hg : KR G g f args s with
    | some y =>
      rw [hg] at h'
      have h' : some y = some x := h'
      injection h' with h'
      subst h'
      exact ⟨g, by simp, hg⟩
    | none =>
      rw [hg] at h'
      obtain ⟨g', h1, h2⟩ := KM_mem h'
      exact ⟨g', by simp [h1], h2⟩
def Good (P : Program) (G V : Nat) (g : Seg) : Prop := Known P G V (KR G g)
theorem known_KM {fs : List FuncId} {gs : List Seg} (h : ∀ g ∈ gs, Good P G V g) : Known P G V (KM G fs gs) := by
  intro f args s v s2 hk b ρ w args' hbG hw hl cs
  unfold KM at hk
  rw [iff_eq] at hk
  obtain ⟨_, hk⟩ := bif_some hk
  obtain ⟨g, h1, h2⟩ := KM_mem hk
  exact h g h1 h2 hbG hw hl cs
def Kno (_ : FuncId) (_ : List Value) (_ : St) : Option (Value × St) := none
theorem known_no : Known P G V Kno := fun h => by cases h
/-- A segment's three closed facts in one. -/
noncomputable def segOk (P : Program) (G : Nat) (K : FuncId → List Value → St → Option (Value × St)) (n : Nat) (g : Seg) : Bool :=
  iff' (g.wf G) (iff' (Nat.ble G g.next) (g.ends ((goF P G K n).call g.f g.args g.start)) false) false
theorem good_of (hm : P.follows .mixedOrders = true) (hK : Known P G V K) {n : Nat} {g : Seg} (h : segOk P G K n g = true) : Good P G V g := by
  unfold segOk at h
  rw [iff_eq, iff_eq] at h
  cases h1 : g.wf G with
  | false => rw [h1] at h; cases h
  | true =>
    rw [h1] at h
    cases h2 : Nat.ble G g.next with
    | false => rw [h2] at h; cases h
    | true =>
      rw [h2] at h
      exact known_KRF hm hK g h1 h2 h
theorem good_nil : ∀ g ∈ ([] : List Seg), Good P G V g := fun _ h => by cases h
theorem good_cons {g : Seg} {gs : List Seg} (h : Good P G V g) (t : ∀ x ∈ gs, Good P G V x) : ∀ x ∈ g :: gs, Good P G V x := fun x hx => by
  rcases List.mem_cons.1 hx with rfl | hx
  · exact h
  · exact t x hx
/-- The same, at just these ids (a run that others share): found by the next id. -/
def GoodS (P : Program) (G V : Nat) (g : Seg) : Prop := Known P G V (KS g)
theorem goodS_of (hm : P.follows .mixedOrders = true) (hK : Known P G V K) {n : Nat} {g : Seg} (h : segOk P G K n g = true) : GoodS P G V g := by
  unfold segOk at h
  rw [iff_eq, iff_eq] at h
  cases h1 : g.wf G with
  | false => rw [h1] at h; cases h
  | true =>
    rw [h1] at h
    cases h2 : Nat.ble G g.next with
    | false => rw [h2] at h; cases h
    | true =>
      rw [h2] at h
      exact known_segF hm hK g h1 h
theorem goodS_nil : ∀ g ∈ ([] : List Seg), GoodS P G V g := fun _ h => by cases h
theorem goodS_cons {g : Seg} {gs : List Seg} (h : GoodS P G V g) (t : ∀ x ∈ gs, GoodS P G V x) : ∀ x ∈ g :: gs, GoodS P G V x := fun x hx => by
  rcases List.mem_cons.1 hx with rfl | hx
  · exact h
  · exact t x hx
theorem known_KLS {fs : List FuncId} {gs : List Seg} (h : ∀ g ∈ gs, GoodS P G V g) : Known P G V (KL fs gs) := known_KL h
end
end Go.Proofs.YtdhkebolenbpiaaGreatDoor.X

namespace Go.Proofs.YtdhkebolenbpiaaGreatDoor.X
open Go.RowKit

/-! ### Functions over texts, known -/
/-- Each byte is the one that is looked for, or can't be. -/
noncomputable def decT (l : List (Nat × Nat)) (c : Nat) : Bool := List.rec (motive := fun _ => Bool) true (fun p _ r => (Nat.beq p.1 p.2 || (Nat.blt c p.1 || Nat.blt p.2 c)) && r) l
noncomputable def cntT (l : List (Nat × Nat)) (c : Nat) : Nat := List.rec (motive := fun _ => Nat) 0 (fun p _ r => bif Nat.beq p.1 p.2 && Nat.beq p.1 c then Nat.succ r else r) l
noncomputable def idxT (l : List (Nat × Nat)) (c : Nat) : Int := List.rec (motive := fun _ => Int) (.negSucc 0) (fun p _ r => bif Nat.beq p.1 p.2 && Nat.beq p.1 c then .ofNat 0 else match r with | .ofNat n => .ofNat (Nat.succ n) | r => r) l
theorem dec_at {p : Nat × Nat} {b : UInt8} {c : Nat} (h : (Nat.beq p.1 p.2 || (Nat.blt c p.1 || Nat.blt p.2 c)) = true) (hb : p.1 ≤ b.toNat ∧ b.toNat ≤ p.2) (hc : c < 256) :
    (b == UInt8.ofNat c) = (Nat.beq p.1 p.2 && Nat.beq p.1 c) := by
  have hcn : (UInt8.ofNat c).toNat = c := by rw [UInt8.toNat_ofNat']; omega
  have hiff : (b == UInt8.ofNat c) = true ↔ b.toNat = c := by
    rw [beq_iff_eq]
    constructor
    · rintro rfl; exact hcn
    · intro e; rw [← e, UInt8.ofNat_toNat]
  rw [Bool.eq_iff_iff, hiff, Bool.and_eq_true]
  simp only [Bool.or_eq_true] at h
  constructor
  · intro e
    rcases h with h | h | h
    · have := Nat.eq_of_beq_eq_true h
      exact ⟨h, by rw [Nat.beq_eq]; omega⟩
    · have : c < p.1 := Nat.le_of_ble_eq_true h
      omega
    · have : p.2 < c := Nat.le_of_ble_eq_true h
      omega
  · rintro ⟨h1, h2⟩
    have := Nat.eq_of_beq_eq_true h1
    have := Nat.eq_of_beq_eq_true h2
    omega
theorem cntT_ok : ∀ {l : List (Nat × Nat)} {m : List UInt8} {c : Nat}, decT l c = true → TR l m → c < 256 → Lib.countByte m (UInt8.ofNat c) = cntT l c
  | [], [], _, _, _, _ => rfl
  | [], _ :: _, _, _, h, _ => h.elim
  | _ :: _, [], _, _, h, _ => h.elim
  | p :: l, b :: m, c, h, k, hc => by
    have h' : ((Nat.beq p.1 p.2 || (Nat.blt c p.1 || Nat.blt p.2 c)) && decT l c) = true := h
    rw [Bool.and_eq_true] at h'
    have e := dec_at h'.1 k.1 hc
    have ih := cntT_ok h'.2 k.2 hc
    show (b :: m).count (UInt8.ofNat c) = bif Nat.beq p.1 p.2 && Nat.beq p.1 c then Nat.succ (cntT l c) else cntT l c
    have ih : m.count (UInt8.ofNat c) = cntT l c := ih
    rw [List.count_cons, ih, e]
    cases (Nat.beq p.1 p.2 && Nat.beq p.1 c) <;> simp
theorem idxT_ok : ∀ {l : List (Nat × Nat)} {m : List UInt8} {c : Nat}, decT l c = true → TR l m → c < 256 → Lib.indexByte m (UInt8.ofNat c) = idxT l c ∧ -1 ≤ idxT l c
  | [], [], _, _, _, _ => ⟨rfl, by show (-1 : Int) ≤ Int.negSucc 0; decide⟩
  | [], _ :: _, _, _, h, _ => h.elim
  | _ :: _, [], _, _, h, _ => h.elim
  | p :: l, b :: m, c, h, k, hc => by
    have h' : ((Nat.beq p.1 p.2 || (Nat.blt c p.1 || Nat.blt p.2 c)) && decT l c) = true := h
    rw [Bool.and_eq_true] at h'
    have e := dec_at h'.1 k.1 hc
    obtain ⟨ih, ih2⟩ := idxT_ok h'.2 k.2 hc
    have hs : idxT (p :: l) c = bif Nat.beq p.1 p.2 && Nat.beq p.1 c then .ofNat 0 else match idxT l c with | .ofNat n => .ofNat (Nat.succ n) | r => r := rfl
    rw [hs, Lib.indexByte, e, ih]
    cases (Nat.beq p.1 p.2 && Nat.beq p.1 c) with
    | true => exact ⟨rfl, by show (-1 : Int) ≤ Int.ofNat 0; decide⟩
    | false =>
      simp only [cond_false, Bool.false_eq_true, if_false]
      cases hq : idxT l c with
      | ofNat n =>
        refine ⟨?_, by show (-1 : Int) ≤ ((n + 1 : Nat) : Int); omega⟩
        rw [if_neg (by first | (simp; done) | (simp; omega))]
        rfl
      | negSucc n =>
        rw [hq] at ih2
        have : n = 0 := by have : (-1 : Int) ≤ -((n : Int) + 1) := by rw [← Int.negSucc_eq]; exact ih2
                           omega
        subst this
        exact ⟨rfl, by show (-1 : Int) ≤ Int.negSucc 0; decide⟩

noncomputable def KTx (fC fI : Nat) (f : FuncId) (args : List Value) (s : St) : Option (Value × St) :=
  bif Nat.beq f fC then
    match args with
    | [v, .string b] =>
      match textOf v, b.data.toList with
      | some l, [x] => bif decT l x.toNat then some (.int .i64 (.ofNat (cntT l x.toNat)), s) else none
      | _, _ => none
    | _ => none
  else bif Nat.beq f fI then
    match args with
    | [v, .int .u8 (.ofNat x)] =>
      match textOf v with
      | some l => bif Nat.ble x 255 && decT l x then some (.int .i64 (idxT l x), s) else none
      | none => none
    | _ => none
  else none
def CntC (P : Program) (f : FuncId) : Prop := ∀ (s : ByteArray) (x : UInt8) (w : World), CallsU P f #[.string s, .string ⟨#[x]⟩] w (.int .i64 (Lib.countByte s.data.toList x))
def IdxC (P : Program) (f : FuncId) : Prop := ∀ (s : ByteArray) (x : Nat) (w : World), x < 256 → CallsU P f #[.string s, .int .u8 x] w (.int .i64 (Lib.indexByte s.data.toList (UInt8.ofNat x)))
section
variable {P : Program} {G V : Nat}
theorem known_KTx {fC fI : Nat} (h1 : CntC P fC) (h2 : IdxC P fI) : Known P G V (KTx fC fI) := by
  intro g args s v s2 hk b ρ w args' hbG hw hl cs
  unfold KTx at hk
  cases hg : Nat.beq g fC with
  | true =>
    rw [hg] at hk
    have := Nat.eq_of_beq_eq_true hg
    subst this
    simp only [cond_true] at hk
    split at hk
    · split at hk
      · rename_i u bb _ _ l x ht hx
        obtain ⟨g1, hk⟩ := bif_some hk
        injection hk with hk
        injection hk with e1 e2
        subst e1; subst e2
        cases hl with
        | cons _ v1 _ _ hv1 hl =>
        cases hl with
        | cons _ v2 _ _ hv2 hl =>
        cases hl
        cases hv2
        obtain ⟨t, rfl, htr⟩ := textOf_ok ht hv1
        have hxl := x.toNat_lt
        have hcn := cntT_ok g1 htr (by omega)
        rw [UInt8.ofNat_toNat] at hcn
        have hb : bb = ⟨#[x]⟩ := by
          obtain ⟨d⟩ := bb
          have : d = #[x] := Array.toList_inj.1 hx
          rw [this]
        subst hb
        have q := h1 t x w
        rw [hcn] at q
        exact known_rel hw (.int _ _) q cs
      · cases hk
    · cases hk
  | false =>
  rw [hg] at hk
  simp only [cond_false] at hk
  cases hg2 : Nat.beq g fI with
  | false => rw [hg2] at hk; cases hk
  | true =>
    rw [hg2] at hk
    have := Nat.eq_of_beq_eq_true hg2
    subst this
    simp only [cond_true] at hk
    split at hk
    · rename_i u x
      split at hk
      · rename_i l ht
        obtain ⟨g1, hk⟩ := bif_some hk
        simp only [Bool.and_eq_true] at g1
        have gx := Nat.le_of_ble_eq_true g1.1
        injection hk with hk
        injection hk with e1 e2
        subst e1; subst e2
        cases hl with
        | cons _ v1 _ _ hv1 hl =>
        cases hl with
        | cons _ v2 _ _ hv2 hl =>
        cases hl
        cases hv2
        obtain ⟨t, rfl, htr⟩ := textOf_ok ht hv1
        have q := h2 t x w (by omega)
        rw [(idxT_ok g1.2 htr (by omega)).1] at q
        exact known_rel hw (.int _ _) q cs
      · cases hk
    · cases hk
end
end Go.Proofs.YtdhkebolenbpiaaGreatDoor.X

namespace Go.Proofs.YtdhkebolenbpiaaGreatDoor.X
open Go.RowKit

/-! ### A number in its one form -/
def digB (b : UInt8) : Bool := decide (48 ≤ b.toNat) && decide (b.toNat ≤ 57)
def numB (l : List UInt8) : Bool := (l.all digB && decide (l.length ≤ 9)) && (match l with | [] => false | b :: r => r.isEmpty || decide (b.toNat ≠ 48))
def valB (l : List UInt8) : Nat := l.foldl (fun a b => a * 10 + (b.toNat - 48)) 0

noncomputable def allDig (l : List (Nat × Nat)) : Bool := List.rec (motive := fun _ => Bool) true (fun p _ r => (Nat.ble 48 p.1 && Nat.ble p.2 57) && r) l
noncomputable def anyNo (l : List (Nat × Nat)) : Bool := List.rec (motive := fun _ => Bool) false (fun p _ r => (Nat.blt p.2 48 || Nat.blt 57 p.1) || r) l
noncomputable def canonT (l : List (Nat × Nat)) : Bool := (allDig l && Nat.ble (lenL l) 9) && (match l with | [] => false | p :: r => Nat.beq (lenL r) 0 || Nat.blt 48 p.1)
noncomputable def badT (l : List (Nat × Nat)) : Bool := (anyNo l || Nat.blt 9 (lenL l)) || (match l with | [] => true | p :: r => Nat.blt 0 (lenL r) && (Nat.beq p.1 48 && Nat.beq p.2 48))
noncomputable def numLo (l : List (Nat × Nat)) (a : Nat) : Nat := List.rec (motive := fun _ => Nat → Nat) (fun a => a) (fun p _ go a => go (a * 10 + (p.1 - 48))) l a
noncomputable def numHi (l : List (Nat × Nat)) (a : Nat) : Nat := List.rec (motive := fun _ => Nat → Nat) (fun a => a) (fun p _ go a => go (a * 10 + (p.2 - 48))) l a
theorem allDig_ok : ∀ {l : List (Nat × Nat)} {m : List UInt8}, allDig l = true → TR l m → m.all digB = true
  | [], [], _, _ => rfl
  | [], _ :: _, _, h => h.elim
  | _ :: _, [], _, h => h.elim
  | p :: l, b :: m, h, k => by
    have h' : ((Nat.ble 48 p.1 && Nat.ble p.2 57) && allDig l) = true := h
    simp only [Bool.and_eq_true] at h'
    have h1 := Nat.le_of_ble_eq_true h'.1.1
    have h2 := Nat.le_of_ble_eq_true h'.1.2
    have hk := k.1
    rw [List.all_cons, allDig_ok h'.2 k.2, Bool.and_true]
    unfold digB
    rw [decide_eq_true (by omega), decide_eq_true (by omega)]; rfl
theorem anyNo_ok : ∀ {l : List (Nat × Nat)} {m : List UInt8}, anyNo l = true → TR l m → m.all digB = false
  | [], [], h, _ => by cases h
  | [], _ :: _, _, h => h.elim
  | _ :: _, [], _, h => h.elim
  | p :: l, b :: m, h, k => by
    have h' : ((Nat.blt p.2 48 || Nat.blt 57 p.1) || anyNo l) = true := h
    simp only [Bool.or_eq_true] at h'
    have hk := k.1
    rw [List.all_cons]
    rcases h' with (h' | h') | h'
    · have : p.2 < 48 := Nat.le_of_ble_eq_true h'
      have : digB b = false := by unfold digB; rw [decide_eq_false (show ¬ 48 ≤ b.toNat by omega)]; rfl
      rw [this]; rfl
    · have : 57 < p.1 := Nat.le_of_ble_eq_true h'
      have : digB b = false := by unfold digB; rw [decide_eq_false (show ¬ b.toNat ≤ 57 by omega), Bool.and_false]
      rw [this]; rfl
    · rw [anyNo_ok h' k.2, Bool.and_false]
theorem num_between : ∀ {l : List (Nat × Nat)} {m : List UInt8} {a b c : Nat}, allDig l = true → TR l m → a ≤ b → b ≤ c →
    numLo l a ≤ m.foldl (fun a b => a * 10 + (b.toNat - 48)) b ∧ m.foldl (fun a b => a * 10 + (b.toNat - 48)) b ≤ numHi l c
  | [], [], _, _, _, _, _, h1, h2 => ⟨h1, h2⟩
  | [], _ :: _, _, _, _, _, h, _, _ => h.elim
  | _ :: _, [], _, _, _, _, h, _, _ => h.elim
  | p :: l, x :: m, a, b, c, h, k, h1, h2 => by
    have h' : ((Nat.ble 48 p.1 && Nat.ble p.2 57) && allDig l) = true := h
    simp only [Bool.and_eq_true] at h'
    have hk := k.1
    exact num_between (a := a * 10 + (p.1 - 48)) (b := b * 10 + (x.toNat - 48)) (c := c * 10 + (p.2 - 48)) h'.2 k.2 (by omega) (by omega)
theorem canonT_ok {l : List (Nat × Nat)} {m : List UInt8} (h : canonT l = true) (k : TR l m) : numB m = true ∧ numLo l 0 ≤ valB m ∧ valB m ≤ numHi l 0 := by
  unfold canonT at h
  simp only [Bool.and_eq_true, lenL_eq] at h
  obtain ⟨⟨h1, h2⟩, h3⟩ := h
  have h2 := Nat.le_of_ble_eq_true h2
  have hlen := TR_len k
  refine ⟨?_, num_between h1 k (Nat.le_refl _) (Nat.le_refl _)⟩
  unfold numB
  rw [allDig_ok h1 k, decide_eq_true (by omega)]
  cases l with
  | nil => cases h3
  | cons p r =>
    cases m with
    | nil => exact k.elim
    | cons b q =>
      simp only [Bool.or_eq_true] at h3
      have hq := TR_len k.2
      rcases h3 with h3 | h3
      · have := Nat.eq_of_beq_eq_true h3
        rw [this] at hq
        have : q = [] := List.length_eq_zero_iff.1 hq.symm
        subst this
        rfl
      · have : 48 < p.1 := Nat.le_of_ble_eq_true h3
        have := k.1
        simp only [Bool.true_and]
        rw [decide_eq_true (by omega), Bool.or_true]
theorem badT_ok {l : List (Nat × Nat)} {m : List UInt8} (h : badT l = true) (k : TR l m) : numB m = false := by
  unfold badT at h
  simp only [Bool.or_eq_true, lenL_eq] at h
  have hlen := TR_len k
  unfold numB
  rcases h with (h | h) | h
  · rw [anyNo_ok h k]; rfl
  · have : 9 < l.length := Nat.le_of_ble_eq_true h
    rw [decide_eq_false (show ¬ m.length ≤ 9 by omega), Bool.and_false]; rfl
  · cases l with
    | nil =>
      cases m with
      | nil => simp
      | cons _ _ => exact k.elim
    | cons p r =>
      cases m with
      | nil => exact k.elim
      | cons b q =>
        simp only [Bool.and_eq_true] at h
        have h1 : 0 < r.length := Nat.le_of_ble_eq_true h.1
        have e1 := Nat.eq_of_beq_eq_true h.2.1
        have e2 := Nat.eq_of_beq_eq_true h.2.2
        have hb := k.1
        have hq := TR_len k.2
        have hz : q.isEmpty = false := by
          cases q with
          | nil => have hq : r.length = 0 := hq; omega
          | cons _ _ => rfl
        have : decide (b.toNat ≠ 48) = false := decide_eq_false (by omega)
        dsimp only
        rw [hz, this]
        simp

/-! ### The function that reads one -/
def IfcV (v : Value) : Prop := v = .nilIface ∨ ∃ t u, v = .iface t u
def NumC (P : Program) (f gE gR gP : Nat) : Prop := ∀ (s : ByteArray) (w : World) (ce cr : Value) (e : TypeId) (fz : Nat × Nat), s.size ≤ 1000000 → w.cell? ⟨gE, 0, none⟩ = some ce → IfcV ce → w.cell? ⟨gR, 0, none⟩ = some cr → IfcV cr →
  w.heap[gP]? = some (.cells (Lib.pow10Tab.map fun z => Value.int .u64 z).toArray e fz) →
  Calls P f #[.string s] w fun en w' => (∃ n : Int, en = .returned (.tuple #[.int .i64 n, .bool (numB s.data.toList)]) ∧ (numB s.data.toList = true → n = valB s.data.toList)) ∧ Below w.heap.size w w'
noncomputable def powRow (o : Option AO) : Bool :=
  match o with
  | some (.obj (.cells ⟨c⟩ _ _)) => samesF c (Lib.pow10Tab.map fun z => Value.int .u64 z)
  | _ => false
noncomputable def ifcRow (o : Option AO) : Bool :=
  match o with
  | some (.tab [.float .f64 c]) => Nat.beq (c % 4) 3
  | _ => false
noncomputable def KNum (fN gE gR gP : Nat) (f : FuncId) (args : List Value) (s : St) : Option (Value × St) :=
  bif Nat.beq f fN then
    match args with
    | [x] =>
      match textOf x with
      | some l =>
        bif (ifcRow (s.heap.get gE) && ifcRow (s.heap.get gR)) && (powRow (s.heap.get gP) && Nat.ble (lenL l) 1000000) then
          bif canonT l then
            match mkR .i64 (numLo l 0) (numHi l 0) s with
            | .ok v s2 => some (.tuple ⟨[v, .bool true]⟩, s2)
            | .no .. => none
          else bif badT l then some (.tuple ⟨[.float .f64 1, .bool false]⟩, s) else none
        else none
      | none => none
    | _ => none
  else none
section
variable {P : Program} {G V : Nat} {b : Base} {ρ : Ren} {s : St} {w : World}
theorem glob_at (hw : WRel P b ρ s w) {g : Nat} (hg : g + 1 < b.G) : ρ g = some ⟨g, 0, 0⟩ := by
  have h := hw.glob g (by omega)
  rw [if_neg (by omega)] at h
  exact h
theorem ifc_cell (hw : WRel P b ρ s w) {g : Nat} (hg : g + 1 < b.G) (h : ifcRow (s.heap.get g) = true) : ∃ v, w.cell? ⟨g, 0, none⟩ = some v ∧ IfcV v := by
  unfold ifcRow at h
  split at h
  · rename_i c hs
    have h := Nat.eq_of_beq_eq_true h
    obtain ⟨o', h1, ca, e, fz, rfl, h3⟩ := hw.heap _ _ _ hs (by simp) (glob_at hw hg)
    obtain ⟨v', h4, h5⟩ := h3 0 _ rfl
    refine ⟨v', ?_, ?_⟩
    · unfold World.cell?
      dsimp only at h1 ⊢
      rw [h1]
      simpa using h4
    · cases h5
      rename_i hk
      rcases hk with ⟨e, _⟩ | ⟨e, _⟩ | ⟨_, e⟩
      · omega
      · omega
      · exact e
  · cases h
theorem pow_cell (hw : WRel P b ρ s w) {g : Nat} (hg : g + 1 < b.G) (h : powRow (s.heap.get g) = true) : ∃ e fz, w.heap[g]? = some (.cells (Lib.pow10Tab.map fun z => Value.int .u64 z).toArray e fz) := by
  unfold powRow at h
  split at h
  · rename_i c e' fz hs
    have e2 := samesF_eq h
    subst e2
    obtain ⟨o', h1, _, e, fz', rfl⟩ := hw.heap _ _ _ hs (by simp) (glob_at hw hg)
    exact ⟨e, fz', h1⟩
  · cases h
theorem known_KNum {fN gE gR gP : Nat} (hE : gE + 1 < G) (hR : gR + 1 < G) (hP : gP + 1 < G) (h : NumC P fN gE gR gP) : Known P G V (KNum fN gE gR gP) := by
  intro g args s v s2 hk b ρ w args' hbG hw hl cs
  injection hbG with hG hVV
  subst hG; subst hVV
  unfold KNum at hk
  cases hg : Nat.beq g fN with
  | false => rw [hg] at hk; cases hk
  | true =>
    rw [hg] at hk
    have := Nat.eq_of_beq_eq_true hg
    subst this
    simp only [cond_true] at hk
    split at hk
    · rename_i x
      split at hk
      · rename_i l hx
        obtain ⟨g1, hk⟩ := bif_some hk
        simp only [Bool.and_eq_true, lenL_eq] at g1
        obtain ⟨⟨g1, g2⟩, g3, g4⟩ := g1
        have g4 := Nat.le_of_ble_eq_true g4
        cases hl with
        | cons _ v1 _ _ hv1 ht =>
        cases ht
        obtain ⟨t, rfl, htr⟩ := textOf_ok hx hv1
        have hlen := TR_len htr
        obtain ⟨ce, c1, c2⟩ := ifc_cell hw hE g1
        obtain ⟨cr, c3, c4⟩ := ifc_cell hw hR g2
        obtain ⟨e, fz, c5⟩ := pow_cell hw hP g3
        have q := h t w ce cr e fz (by have : t.size = t.data.toList.length := rfl
                                       omega) c1 c2 c3 c4 c5
        obtain ⟨_, w', fr, ⟨⟨n, rfl, hn⟩, q1⟩, q2, q3, q4⟩ := q cs
        cases hc : canonT l with
        | true =>
          rw [hc] at hk
          simp only [cond_true] at hk
          obtain ⟨k1, k2, k3⟩ := canonT_ok hc htr
          split at hk
          · rename_i u s3 hm
            injection hk with hk
            injection hk with e1 e2
            subst e1; subst e2
            obtain ⟨rfl, hv⟩ := mkR_ok (ρ := ρ) hm k2 k3
            rw [k1] at q4
            rw [hn k1] at q4
            exact ⟨ρ, _, w', ⟨fun _ _ => rfl, Nat.le_refl _, fun _ _ _ => rfl, hw.grow q1⟩, .tuple _ _ (.cons _ _ _ _ hv (.cons _ _ _ _ (.bool true) .nil)), fr, q2, q3, q4⟩
          · cases hk
        | false =>
          rw [hc] at hk
          simp only [cond_false] at hk
          obtain ⟨k0, hk⟩ := bif_some hk
          injection hk with hk
          injection hk with e1 e2
          subst e1; subst e2
          rw [badT_ok k0 htr] at q4
          exact ⟨ρ, _, w', ⟨fun _ _ => rfl, Nat.le_refl _, fun _ _ _ => rfl, hw.grow q1⟩, .tuple _ _ (.cons _ _ _ _ (.txt 1 _ (.inr (.inl ⟨rfl, n, rfl⟩))) (.cons _ _ _ _ (.bool false) .nil)), fr, q2, q3, q4⟩
      · cases hk
    · cases hk
end
end Go.Proofs.YtdhkebolenbpiaaGreatDoor.X

namespace Go.Proofs.YtdhkebolenbpiaaGreatDoor.X
open Go.RowKit

/-! ### What is read back as it is written -/
theorem valB_app (l m : List UInt8) : valB (l ++ m) = m.foldl (fun a b => a * 10 + (b.toNat - 48)) (valB l) := by
  unfold valB; rw [List.foldl_append]
theorem valB_snoc (l : List UInt8) (b : UInt8) : valB (l ++ [b]) = valB l * 10 + (b.toNat - 48) := by rw [valB_app]; rfl
theorem digB_iff {b : UInt8} : digB b = true ↔ 48 ≤ b.toNat ∧ b.toNat ≤ 57 := by unfold digB; simp
theorem dec_canon : ∀ u : Nat, (Lib.decDigits u).all digB = true ∧ ∃ b r, Lib.decDigits u = b :: r ∧ ((u < 10 ∧ r = []) ∨ (10 ≤ u ∧ b.toNat ≠ 48)) := by
  intro u
  induction u using Nat.strongRecOn with
  | _ u ih =>
    rw [Lib.decDigits]
    by_cases h : u < 10
    · rw [dif_pos h]
      refine ⟨?_, _, _, rfl, .inl ⟨h, rfl⟩⟩
      simp only [List.all_cons, List.all_nil, Bool.and_true]
      rw [digB_iff, UInt8.toNat_ofNat']
      omega
    · rw [dif_neg h]
      obtain ⟨h1, b, r, h2, h3⟩ := ih (u / 10) (by omega)
      refine ⟨?_, b, r ++ [UInt8.ofNat (48 + u % 10)], by rw [h2]; rfl, .inr ⟨by omega, ?_⟩⟩
      · rw [List.all_append, h1]
        simp only [List.all_cons, List.all_nil, Bool.and_true, Bool.true_and]
        rw [digB_iff, UInt8.toNat_ofNat']
        omega
      · rcases h3 with ⟨h4, h5⟩ | ⟨_, h4⟩
        · rw [Lib.decDigits, dif_pos h4] at h2
          injection h2 with h2 _
          rw [← h2, UInt8.toNat_ofNat']
          omega
        · exact h4
theorem num_back {l : List UInt8} {v : Int} (h0 : 0 ≤ v) (hl : l.length ≤ 9) (h : Lib.itoa v = l) : numB l = true := by
  obtain ⟨u, rfl⟩ : ∃ u : Nat, v = u := ⟨v.toNat, by omega⟩
  rw [Lib.itoa_nonneg] at h
  obtain ⟨h1, b, r, h2, h3⟩ := dec_canon u
  rw [h] at h1 h2
  subst h2
  unfold numB
  rw [h1, decide_eq_true hl]
  rcases h3 with ⟨_, rfl⟩ | ⟨_, h3⟩
  · rfl
  · simp only [Bool.true_and]
    rw [decide_eq_true h3, Bool.or_true]
theorem parse_ok : ∀ (l : List UInt8) (acc k : Nat), l.all digB = true → acc < 10 ^ k → k + l.length ≤ 18 → Lib.parseUint10 acc l = .ok (l.foldl (fun a b => a * 10 + (b.toNat - 48)) acc) ∧ l.foldl (fun a b => a * 10 + (b.toNat - 48)) acc < 10 ^ 18
  | [], acc, k, _, h, hk => ⟨rfl, Nat.lt_of_lt_of_le h (Nat.pow_le_pow_right (by omega) (by simpa using hk))⟩
  | b :: l, acc, k, hd, h, hk => by
    rw [List.all_cons, Bool.and_eq_true, digB_iff] at hd
    have hlen : (b :: l).length = l.length + 1 := rfl
    have hk1 : k ≤ 17 := by omega
    have hp : 10 ^ k ≤ 10 ^ 17 := Nat.pow_le_pow_right (by omega) hk1
    have hacc : acc < 100000000000000000 := Nat.lt_of_lt_of_le h hp
    have hnext : acc * 10 + (b.toNat - 48) < 10 ^ (k + 1) := by rw [Nat.pow_succ]; omega
    have ih := parse_ok l (acc * 10 + (b.toNat - 48)) (k + 1) hd.2 hnext (by omega)
    refine ⟨?_, ih.2⟩
    rw [Lib.parseUint10, if_pos hd.1, if_neg (by omega), if_neg (by omega)]
    exact ih.1
theorem val_back : ∀ (n : Nat) (l : List UInt8), l.length = n → l.all digB = true → (∃ b r, l = b :: r ∧ (r = [] ∨ b.toNat ≠ 48)) → Lib.decDigits (valB l) = l ∧ (2 ≤ n → 10 ≤ valB l) ∧ ((∃ b r, l = b :: r ∧ b.toNat ≠ 48) → 1 ≤ valB l)
  | 0, l, hn, _, ⟨b, r, e, _⟩ => by subst e; simp at hn
  | 1, l, hn, hd, ⟨b, r, e, _⟩ => by
    subst e
    have : r = [] := by simpa using hn
    subst this
    simp only [List.all_cons, List.all_nil, Bool.and_true] at hd
    rw [digB_iff] at hd
    have hv : valB [b] = b.toNat - 48 := by unfold valB; simp
    refine ⟨?_, fun h => by omega, ?_⟩
    · rw [hv, Lib.decDigits, dif_pos (by omega), show 48 + (b.toNat - 48) = b.toNat by omega, UInt8.ofNat_toNat]
    · rintro ⟨b', r', e, h⟩
      injection e with e _
      subst e
      rw [hv]; omega
  | n + 2, l, hn, hd, ⟨b, r, e, hb⟩ => by
    subst e
    have hr : r.length = n + 1 := by simpa using hn
    have hr0 : r ≠ [] := by intro e; subst e; simp at hr
    have hb' : b.toNat ≠ 48 := hb.resolve_left hr0
    clear hb
    obtain ⟨q, d, rfl⟩ : ∃ q d, r = q ++ [d] := ⟨r.dropLast, r.getLast hr0, (List.dropLast_concat_getLast hr0).symm⟩
    have e2 : b :: (q ++ [d]) = (b :: q) ++ [d] := rfl
    rw [e2] at hd ⊢
    rw [List.all_append, Bool.and_eq_true] at hd
    obtain ⟨ih1, ih2, ih3⟩ := val_back (n + 1) (b :: q) (by simpa using hr) hd.1 ⟨b, q, rfl, .inr hb'⟩
    have h1 := ih3 ⟨b, q, rfl, hb'⟩
    have hd2 := hd.2
    simp only [List.all_cons, List.all_nil, Bool.and_true] at hd2
    rw [digB_iff] at hd2
    rw [valB_snoc]
    refine ⟨?_, fun _ => by omega, fun _ => by omega⟩
    rw [Lib.decDigits, dif_neg (by omega), show (valB (b :: q) * 10 + (d.toNat - 48)) / 10 = valB (b :: q) by omega, ih1, show 48 + (valB (b :: q) * 10 + (d.toNat - 48)) % 10 = d.toNat by omega, UInt8.ofNat_toNat]
theorem num_ok {l : List UInt8} (h : numB l = true) : Lib.atoiAll l = .ok (valB l) ∧ Lib.itoa (valB l) = l ∧ l.length ≤ 9 := by
  unfold numB at h
  rw [Bool.and_eq_true, Bool.and_eq_true] at h
  obtain ⟨⟨h1, h2⟩, h3⟩ := h
  have h2 := of_decide_eq_true h2
  cases l with
  | nil => cases h3
  | cons b r =>
    have hc : r = [] ∨ b.toNat ≠ 48 := by
      dsimp only at h3
      rw [Bool.or_eq_true] at h3
      rcases h3 with h3 | h3
      · exact .inl (List.isEmpty_iff.1 h3)
      · exact .inr (of_decide_eq_true h3)
    obtain ⟨g1, g2⟩ := parse_ok (b :: r) 0 0 h1 (by decide) (by omega)
    have hd := (List.all_eq_true.1 h1) b (by simp)
    rw [digB_iff] at hd
    refine ⟨?_, ?_, h2⟩
    · have hm : Lib.parseMag (b :: r) = .ok (valB (b :: r)) := by
        unfold Lib.parseMag
        rw [if_neg (by simp)]
        exact g1
      have hv : valB (b :: r) < 1000000000000000000 := g2
      unfold Lib.atoiAll
      dsimp only
      rw [if_neg (show ¬ (b.toNat = 43 ∨ b.toNat = 45) by omega), hm]
      dsimp only
      rw [if_neg (by omega), if_neg (by omega), if_neg (by omega)]
    · rw [Lib.itoa_nonneg]
      exact (val_back _ (b :: r) rfl h1 ⟨b, r, rfl, hc⟩).1
theorem num_iff {l : List UInt8} {v : Int} (h : Lib.atoiAll l = .ok v) : (numB l = true ↔ 0 ≤ v ∧ l.length ≤ 9 ∧ Lib.itoa v = l) ∧ (numB l = true → v = valB l) := by
  have key : numB l = true → v = valB l ∧ Lib.itoa (valB l) = l ∧ l.length ≤ 9 := fun hn => by
    obtain ⟨h1, h2, h3⟩ := num_ok hn
    rw [h] at h1
    injection h1 with h1
    exact ⟨h1, h2, h3⟩
  refine ⟨⟨fun hn => ?_, fun ⟨h0, h1, h2⟩ => num_back h0 h1 h2⟩, fun hn => (key hn).1⟩
  obtain ⟨h1, h2, h3⟩ := key hn
  subst h1
  exact ⟨by omega, h3, h2⟩
theorem num_no {l : List UInt8} (h : ∀ v, Lib.atoiAll l ≠ .ok v) : numB l = false :=
  Bool.eq_false_iff.2 fun hn => h _ (num_ok hn).1
end Go.Proofs.YtdhkebolenbpiaaGreatDoor.X

namespace Go.Proofs.YtdhkebolenbpiaaGreatDoor.X
open Go.RowKit

/-! ### What a function reaches, found quicker -/
noncomputable def closF (P : Program) (n : Nat) : List FuncId → List FuncId → Nat → List FuncId :=
  Nat.rec (motive := fun _ => List FuncId → List FuncId → Nat → List FuncId) (fun _ seen _ => seen.reverse)
    (fun _ go todo seen m => List.rec (motive := fun _ => List FuncId) seen.reverse (fun f todo _ =>
      Bool.rec (motive := fun _ => List FuncId) (go (appL (Option.rec (motive := fun _ => List FuncId) [] (fun fn => P.leadsTo fn) (funcF P f)) todo) (f :: seen) (forceN (Nat.lor m (Nat.shiftLeft 1 f)) fun m => m)) (go todo seen m) (bitF m f)) todo) n
theorem bit_or (m f x : Nat) : bitF (Nat.lor m (Nat.shiftLeft 1 f)) x = (x == f || bitF m x) := by
  rw [bitF_eq, bitF_eq]
  show (m ||| 1 <<< f).testBit x = _
  rw [Nat.testBit_or, Nat.one_shiftLeft, Nat.testBit_two_pow, Bool.or_comm]
  congr 1
  rw [Bool.eq_iff_iff]
  simp only [decide_eq_true_eq, beq_iff_eq]
  exact eq_comm
theorem closF_eq (P : Program) : ∀ (n : Nat) (todo seen : List FuncId) (m : Nat), (∀ x, bitF m x = seen.contains x) → closF P n todo seen m = P.closureVia n todo seen
  | 0, _, _, _, _ => by unfold Program.closureVia; rfl
  | n + 1, [], _, _, _ => by unfold Program.closureVia; rfl
  | n + 1, f :: todo, seen, m, h => by
    have e : closF P (n + 1) (f :: todo) seen m = Bool.rec (motive := fun _ => List FuncId) (closF P n (appL (Option.rec (motive := fun _ => List FuncId) [] (fun fn => P.leadsTo fn) (funcF P f)) todo) (f :: seen) (forceN (Nat.lor m (Nat.shiftLeft 1 f)) fun m => m)) (closF P n todo seen m) (bitF m f) := rfl
    rw [e, h f]
    unfold Program.closureVia
    cases hc : seen.contains f with
    | true => exact closF_eq P n todo seen m h
    | false =>
      show closF P n (appL (Option.rec (motive := fun _ => List FuncId) [] (fun fn => P.leadsTo fn) (funcF P f)) todo) (f :: seen) (forceN (Nat.lor m (Nat.shiftLeft 1 f)) fun m => m) = _
      rw [forceN_eq, appL_eq, funcF_eq, closF_eq P n _ (f :: seen) _ (fun x => by rw [bit_or, h x, List.contains_cons])]
      cases P.funcs[f]? <;> rfl
theorem closure_eq (P : Program) (f : FuncId) : P.closure f = closF P (1 + (P.funcs.toList.map fun g => (P.leadsTo g).length + 1).sum) [f] [] 0 := by
  rw [closF_eq P _ [f] [] 0 (fun x => by rw [bitF_eq]; simp)]
  rfl
end Go.Proofs.YtdhkebolenbpiaaGreatDoor.X
