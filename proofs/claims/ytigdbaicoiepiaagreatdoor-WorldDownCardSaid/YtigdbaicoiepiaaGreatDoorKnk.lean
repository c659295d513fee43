/- A runner for closed calls, part 11: Zy Zr. -/
import Derived.Test.YtigdbaicoiepiaaGreatDoorKnj
import GoSem.ClaimFn
namespace Go.Proofs.YtigdbaicoiepiaaGreatDoor.X
open Go.RowKit

/-! ### Calls that were run before: known at any heap of the same shape -/
noncomputable def sgm (G N0 N big : Nat) (t : Tr Nat) (i : Nat) : Nat :=
  iff' (Nat.blt i G) i (iff' (Nat.ble N0 i) (N + (i - N0))
    (Option.rec (motive := fun _ => Nat) (big + i) (fun j => iff' (Nat.ble G j && Nat.blt j N) j (big + i)) ((getB i).use t)))
structure SgOk (G N0 N N2 : Nat) (σ : Nat → Nat) : Prop where
  low : ∀ i, i < G → σ i = i
  new : ∀ i, N0 ≤ i → G ≤ i → σ i = N + (i - N0)
  mid : ∀ i, G ≤ i → i < N0 → (G ≤ σ i ∧ σ i < N) ∨ N + N2 ≤ σ i
theorem sgm_ok (G N0 N N2 : Nat) (t : Tr Nat) : SgOk G N0 N N2 (sgm G N0 N (N + N2) t) := by
  have hlt : ∀ {a c : Nat}, Nat.blt a c = true ↔ a < c := fun {a c} => ⟨Nat.le_of_ble_eq_true, fun h => Nat.ble_eq_true_of_le h⟩
  refine ⟨fun i h => ?_, fun i h hG => ?_, fun i hG h => ?_⟩
  · unfold sgm
    rw [iff_eq, hlt.2 h]; rfl
  · unfold sgm
    have h1 : Nat.blt i G = false := Bool.eq_false_iff.2 fun e => by have := hlt.1 e; omega
    rw [iff_eq, h1, cond_false, iff_eq, Nat.ble_eq_true_of_le h]; rfl
  · unfold sgm
    have h1 : Nat.blt i G = false := Bool.eq_false_iff.2 fun e => by have := hlt.1 e; omega
    have h2 : Nat.ble N0 i = false := Bool.eq_false_iff.2 fun e => by have := Nat.le_of_ble_eq_true e; omega
    rw [iff_eq, h1, cond_false, iff_eq, h2, cond_false]
    cases (getB i).use t with
    | none => exact .inr (by show N + N2 ≤ N + N2 + i; omega)
    | some j =>
      show _ ∨ N + N2 ≤ iff' (Nat.ble G j && Nat.blt j N) j (N + N2 + i)
      dsimp only
      rw [iff_eq]
      cases hc : (Nat.ble G j && Nat.blt j N) with
      | true =>
        rw [Bool.and_eq_true] at hc
        exact .inl ⟨Nat.le_of_ble_eq_true hc.1, hlt.1 hc.2⟩
      | false => exact .inr (by show N + N2 ≤ N + N2 + i; omega)

/-- Which id is which: found, not proved. -/
noncomputable def uA (a b : Nat) (t : Tr Nat) : Tr Nat := Option.rec (motive := fun _ => Tr Nat) ((setB a).use b t) (fun _ => t) ((getB a).use t)
mutual
noncomputable def uV : Value → Value → Tr Nat → Tr Nat
  | .pointer (some a), .pointer (some b), t => uA a.block b.block t
  | .slice (some a) _ _, .slice (some b) _ _, t => uA a.block b.block t
  | .map (some a), .map (some b), t => uA a b t
  | .agg ⟨a⟩, .agg ⟨b⟩, t => uL a b t
  | .iface _ a, .iface _ b, t => uV a b t
  | .func _ ⟨a⟩ ⟨b⟩, .func _ ⟨c⟩ ⟨d⟩, t => uL b d (uL a c t)
  | _, _, t => t
noncomputable def uL : List Value → List Value → Tr Nat → Tr Nat
  | v :: l, w :: m, t => uL l m (uV v w t)
  | _, _, t => t
end
noncomputable def uEs : List MapEntry → List MapEntry → Tr Nat → Tr Nat
  | v :: l, w :: m, t => uEs l m (uV v.val w.val (uV v.key w.key t))
  | _, _, t => t
noncomputable def uO (o o' : AO) (t : Tr Nat) : Tr Nat :=
  match o, o' with
  | .row a _ _, .row b _ _ => uL a b t
  | .obj (.map ⟨a⟩ _), .obj (.map ⟨b⟩ _) => uEs a b t
  | _, _ => t
noncomputable def uAll (G : Nat) (h : Tr AO) (l : Ents) : Tr Nat → Tr Nat :=
  List.rec (motive := fun _ => Tr Nat → Tr Nat) (fun t => t) (fun p _ go t =>
    iff' (Nat.blt p.1 G) (go t) (Option.rec (motive := fun _ => Tr Nat) t (fun j => Option.rec (motive := fun _ => Tr Nat) t (fun o => go (uO p.2 o t)) ((getB j).use h)) ((getB p.1).use t))) l

section
variable (σ : Nat → Nat)
noncomputable def subR (l : Ents) (t : Tr AO) : Bool := List.rec (motive := fun _ => Bool) true (fun p _ r => iff' (sameO ((getB (σ p.1)).use t) (renO σ p.2)) r false) l
noncomputable def renD (l : Ents) : Ents := List.rec (motive := fun _ => Ents) [] (fun p _ r => (σ p.1, renO σ p.2) :: r) l
/-- Each image has one source. -/
noncomputable def injL (l : Ents) : Tr Nat → Bool :=
  List.rec (motive := fun _ => Tr Nat → Bool) (fun _ => true) (fun p _ go t => Option.rec (motive := fun _ => Bool) (go ((setB (σ p.1)).use p.1 t)) (fun _ => false) ((getB (σ p.1)).use t)) l
noncomputable def liveD (l : Ents) : Bool := List.rec (motive := fun _ => Bool) true (fun p _ r => iff' (isDead p.2) r (iff' (isDead (renO σ p.2)) false r)) l
noncomputable def ltD (n : Nat) (l : Ents) : Bool := List.rec (motive := fun _ => Bool) true (fun p _ r => iff' (Nat.blt (σ p.1) n) r false) l
end
noncomputable def KR1 (g : Seg) (args : List Value) (s : St) (σ : Nat → Nat) : Option (Value × St) :=
  iff' (samesF (renL σ g.args) args && (subR σ g.st s.heap && (injL σ g.st .nil && (liveD σ g.st && ltD σ (s.next + (g.next2 - g.next)) g.diff))))
    (some (ren σ g.v, { heap := setAll (renD σ g.diff) s.heap, next := s.next + (g.next2 - g.next) })) none
noncomputable def KR (G : Nat) (g : Seg) (f : FuncId) (args : List Value) (s : St) : Option (Value × St) :=
  iff' (Nat.beq f g.f)
    (iff' (samesF (renL (sgm G g.next s.next (s.next + g.next2) (uL g.args args .nil)) g.args) args)
      (KR1 g args s (sgm G g.next s.next (s.next + g.next2) (uAll G s.heap g.st (uL g.args args .nil)))) none) none

section
variable {σ : Nat → Nat}
theorem subR_get {t : Tr AO} : ∀ {l : Ents}, subR σ l t = true → ∀ p ∈ l, t.get (σ p.1) = some (renO σ p.2)
  | [], _, _, h => by cases h
  | q :: l, h, p, hp => by
    have h' : iff' (sameO ((getB (σ q.1)).use t) (renO σ q.2)) (subR σ l t) false = true := h
    rw [iff_eq, getB_eq] at h'
    cases hv : sameO (t.get (σ q.1)) (renO σ q.2) with
    | false => rw [hv] at h'; cases h'
    | true =>
      rw [hv] at h'
      rcases List.mem_cons.1 hp with rfl | hp
      · exact sameO_eq hv
      · exact subR_get h' p hp
theorem injL_mem : ∀ {l : Ents} {t : Tr Nat}, injL σ l t = true → (∀ p ∈ l, t.get (σ p.1) = none) ∧ ∀ p ∈ l, ∀ q ∈ l, σ p.1 = σ q.1 → p.1 = q.1
  | [], _, _ => And.intro (fun _ h => by cases h) (fun _ h => by cases h)
  | q :: l, t, h => by
    have h' : Option.rec (motive := fun _ => Bool) (injL σ l ((setB (σ q.1)).use q.1 t)) (fun _ => false) ((getB (σ q.1)).use t) = true := h
    rw [getB_eq, setB_eq] at h'
    cases hv : t.get (σ q.1) with
    | some _ => rw [hv] at h'; cases h'
    | none =>
      rw [hv] at h'
      have h' : injL σ l (t.set (σ q.1) q.1) = true := h'
      obtain ⟨g1, g2⟩ := injL_mem h'
      have hne : ∀ p ∈ l, σ p.1 ≠ σ q.1 ∧ t.get (σ p.1) = none := fun p hp => by
        have := g1 p hp
        rw [Tr.get_set] at this
        by_cases he : σ p.1 = σ q.1
        · rw [if_pos he] at this; cases this
        · rw [if_neg he] at this; exact ⟨he, this⟩
      refine ⟨fun p hp => ?_, fun p hp p' hp' e => ?_⟩
      · rcases List.mem_cons.1 hp with rfl | hpl
        · exact hv
        · exact (hne p hpl).2
      · rcases List.mem_cons.1 hp with rfl | hpl
        · rcases List.mem_cons.1 hp' with rfl | hpl'
          · rfl
          · exact absurd e.symm (hne _ hpl').1
        · rcases List.mem_cons.1 hp' with e1 | hpl'
          · rw [e1] at e
            exact absurd e (hne _ hpl).1
          · exact g2 p hpl p' hpl' e
theorem liveD_mem : ∀ {l : Ents}, liveD σ l = true → ∀ p ∈ l, p.2 ≠ .dead → renO σ p.2 ≠ .dead
  | [], _, _, h => by cases h
  | q :: l, h, p, hp => by
    have h' : iff' (isDead q.2) (liveD σ l) (iff' (isDead (renO σ q.2)) false (liveD σ l)) = true := h
    rw [iff_eq, iff_eq] at h'
    have hrest : liveD σ l = true := by
      revert h'
      cases isDead q.2 <;> cases isDead (renO σ q.2) <;> intro h' <;> first | exact h' | cases h'
    rcases List.mem_cons.1 hp with rfl | hp
    · intro hd hr
      rw [hr] at h'
      cases hq : p.2 <;> rw [hq] at h' hd <;> first | exact hd rfl | cases h'
    · exact liveD_mem hrest p hp
theorem ltD_mem {n : Nat} : ∀ {l : Ents}, ltD σ n l = true → ∀ p ∈ l, σ p.1 < n
  | [], _, _, h => by cases h
  | q :: l, h, p, hp => by
    have h' : iff' (Nat.blt (σ q.1) n) (ltD σ n l) false = true := h
    rw [iff_eq] at h'
    cases hv : Nat.blt (σ q.1) n with
    | false => rw [hv] at h'; cases h'
    | true =>
      rw [hv] at h'
      rcases List.mem_cons.1 hp with rfl | hp
      · exact Nat.le_of_ble_eq_true hv
      · exact ltD_mem h' p hp
theorem renD_mem : ∀ {l : Ents} {j : Nat} {o : AO}, (j, o) ∈ renD σ l → ∃ i o0, (i, o0) ∈ l ∧ j = σ i ∧ o = renO σ o0
  | [], _, _, h => by cases h
  | q :: l, j, o, h => by
    have h : (j, o) ∈ (σ q.1, renO σ q.2) :: renD σ l := h
    rcases List.mem_cons.1 h with e | h
    · injection e with e1 e2
      exact ⟨q.1, q.2, by simp, e1, e2⟩
    · obtain ⟨i, o0, h1, h2, h3⟩ := renD_mem h
      exact ⟨i, o0, by simp [h1], h2, h3⟩
theorem renD_has : ∀ {l : Ents} {i : Nat}, hasId l i = true → hasId (renD σ l) (σ i) = true
  | [], _, h => by cases h
  | q :: l, i, h => by
    have h' : iff' (Nat.beq q.1 i) true (hasId l i) = true := h
    show iff' (Nat.beq (σ q.1) (σ i)) true (hasId (renD σ l) (σ i)) = true
    rw [iff_eq] at h' ⊢
    cases hb : Nat.beq q.1 i with
    | true =>
      rw [Nat.eq_of_beq_eq_true hb, Nat.beq_refl]; rfl
    | false =>
      rw [hb] at h'
      rw [renD_has h']
      cases Nat.beq (σ q.1) (σ i) <;> rfl

variable {P : Program} {G V : Nat} {K : FuncId → List Value → St → Option (Value × St)}
set_option maxHeartbeats 1000000 in
theorem known_KR (hD : DrawOk P G) (hK : Known P G V K) {n : Nat} (g : Seg) (hwf : g.wf G = true) (hGn : Nat.ble G g.next = true) (hrun : g.ends ((goK P G K n).call g.f g.args g.start) = true) : Known P G V (KR G g) := by
  intro f args s v s2 hk b ρ w args' hbG hw hl cs
  unfold KR at hk
  rw [iff_eq, iff_eq] at hk
  cases h1 : Nat.beq f g.f with
  | false => rw [h1] at hk; cases hk
  | true =>
  rw [h1, cond_true] at hk
  cases h2 : samesF (renL (sgm G g.next s.next (s.next + g.next2) (uL g.args args .nil)) g.args) args with
  | false => rw [h2] at hk; cases hk
  | true =>
  rw [h2, cond_true] at hk
  have hσ := sgm_ok G g.next s.next g.next2 (uAll G s.heap g.st (uL g.args args .nil))
  generalize sgm G g.next s.next (s.next + g.next2) (uAll G s.heap g.st (uL g.args args .nil)) = σ at hk hσ
  clear h2
  unfold KR1 at hk
  rw [iff_eq] at hk
  obtain ⟨hc, hk⟩ := bif_some hk
  injection hk with hk
  injection hk with e1 e2
  subst e1; subst e2
  have := Nat.eq_of_beq_eq_true h1
  subst this
  simp only [Bool.and_eq_true] at hc
  obtain ⟨h4, hsub, hinj, hlive, hltD⟩ := hc
  have hargs := samesF_eq h4
  subst hargs
  have hG : b.G = G := by injection hbG
  have hGN0 := Nat.le_of_ble_eq_true hGn
  unfold Seg.wf at hwf
  rw [Bool.and_eq_true] at hwf
  have hbase := hw.base
  have sget : ∀ i o, g.start.heap.get i = some o → s.heap.get (σ i) = some (renO σ o) := fun i o h => subR_get hsub _ (start_get g i o h)
  have slt : ∀ i o, g.start.heap.get i = some o → i < g.next ∧ o ≠ .dead := fun i o h => wfL_mem hwf.1 _ (start_get g i o h)
  have sfresh : ∀ j o, s.heap.get j = some o → j < s.next := fun j o h => by
    rcases Nat.lt_or_ge j s.next with h' | h'
    · exact h'
    · have := hw.fresh j h'; rw [this] at h; cases h
  have sinj : ∀ i j o o', g.start.heap.get i = some o → g.start.heap.get j = some o' → σ i = σ j → i = j := fun i j o o' hi hj e => (injL_mem hinj).2 _ (start_get g i o hi) _ (start_get g j o' hj) e
  have sGe : ∀ i, G ≤ i → G ≤ σ i := fun i hi => by
    rcases Nat.lt_or_ge i g.next with h | h
    · rcases hσ.mid i hi h with h | h <;> omega
    · rw [hσ.new i h hi]; omega
  have rdom : ∀ i l, ρ (σ i) = some l → i < g.next := fun i l hl => by
    have h := hw.dom _ l hl
    rcases Nat.lt_or_ge i g.next with h' | h'
    · exact h'
    · rw [hσ.new i h' (by omega)] at h; omega
  obtain ⟨v, S2, hcall⟩ : ∃ v S2, (goK P G K n).call g.f g.args g.start = .ok v S2 := by
    cases hc : (goK P G K n).call g.f g.args g.start with
    | ok v S2 => exact ⟨v, S2, rfl⟩
    | no a c => rw [hc] at hrun; cases hrun
  rw [hcall] at hrun
  simp only [Seg.ends, Bool.and_eq_true] at hrun
  obtain ⟨⟨hv, hn2⟩, hdiff, hrest⟩ := hrun
  rw [sameF_eq] at hv
  have hv := same_eq hv
  subst hv
  have hn2 := Nat.eq_of_beq_eq_true hn2
  let b' : Base := ⟨b.G, b.B, w, b.val, fun k => b.prot k ∨ ∃ j o l, s.heap.get j = some o ∧ o ≠ .dead ∧ ρ j = some l ∧ l.blk = k ∧ ∀ i o', g.start.heap.get i = some o' → renO σ o' ≠ .dead → σ i ≠ j⟩
  have hnd : ∀ i o, g.start.heap.get i = some o → renO σ o ≠ .dead := fun i o hi => liveD_mem hlive _ (start_get g i o hi) (slt i o hi).2
  have rend : ∀ o : AO, renO σ o ≠ .dead → o ≠ .dead := fun o h e => by subst e; exact h rfl
  have hwS : WRel P b' (fun i => ρ (σ i)) g.start w := by
    refine ⟨fun i o l hi hd hl => ?_, fun i j o o' l l' hne hi hd hj hd' hl hl' => hw.inj (σ i) (σ j) _ _ l l' (fun e => hne (sinj i j o o' hi hj e)) (sget i o hi) (hnd i o hi) (sget j o' hj) (hnd j o' hj) hl hl', fun i l hl => rdom i l hl, fun i hi => ?_, fun i l hi hl => ?_, fun q hq => ?_, ?_, hw.size, .refl _ _, ?_, ?_⟩
    · obtain ⟨x, h1, h2⟩ := hw.heap (σ i) _ l (sget i o hi) (hnd i o hi) hl
      exact ⟨x, h1, ORel.renB (hnd i o hi) h2⟩
    · have hi : g.next ≤ i := hi
      cases hc : g.start.heap.get i with
      | none => rfl
      | some o => have := (slt i o hc).1; omega
    · have hi : b.G ≤ i := hi
      have := sGe i (by omega)
      exact hw.low (σ i) l (by omega) hl
    · have hq : q < b.G := hq
      rw [hσ.low q (by omega)]
      exact hw.glob q hq
    · show b.G ≤ g.next
      omega
    · intro i o l hGi hi hd hl hp
      have hGi : b.G ≤ i := hGi
      have hgi := sGe i (by omega)
      rcases hp with hp | ⟨j, o', l', hj, hd', hl', hb, hn⟩
      · exact hw.apart (σ i) _ l (by omega) (sget i o hi) (hnd i o hi) hl hp
      · exact hw.inj (σ i) j _ o' l l' (hn i o hi (hnd i o hi)) (sget i o hi) (hnd i o hi) hj hd' hl hl' hb.symm
    · intro k hp
      refine ⟨?_, rfl⟩
      rcases hp with hp | ⟨j, o', l', hj, hd', hl', hb, hn⟩
      · exact hw.kept_lt hp
      · obtain ⟨x, hx, _⟩ := hw.heap j o' l' hj hd' hl'
        rw [← hb]
        exact (Array.getElem?_eq_some_iff.1 hx).1
  obtain ⟨ρ2, v', w', hok, hvr, fr, hst, hfn, hlv⟩ := (goK_ok hD hK n).call hcall (b := b') hbG hwS (LRel.renB hl) cs
  have hS2n : g.next ≤ S2.next := hok.next
  -- the renaming behind
  let ρ' : Ren := fun j => if j < s.next then ρ j else if j < s.next + (S2.next - g.next) then ρ2 (g.next + (j - s.next)) else none
  have hlow' : ∀ j, j < s.next → ρ' j = ρ j := fun j hj => if_pos hj
  have hnew' : ∀ j, s.next ≤ j → j < s.next + (S2.next - g.next) → ρ' j = ρ2 (g.next + (j - s.next)) := fun j hj hj' => by
    show (if j < s.next then ρ j else _) = _
    rw [if_neg (by omega), if_pos hj']
  have hbig' : ∀ j, s.next + (S2.next - g.next) ≤ j → ρ' j = none := fun j hj => by
    show (if j < s.next then ρ j else _) = _
    rw [if_neg (by omega), if_neg (by omega)]
  have hρ : ρ2 = fun i => ρ' (σ i) := by
    funext i
    show ρ2 i = ρ' (σ i)
    by_cases hi : i < g.next
    · have he : ρ2 i = ρ (σ i) := hok.ext i hi
      rw [he]
      by_cases hGi : i < G
      · rw [hσ.low i hGi, hlow' i (by omega)]
      · rcases hσ.mid i (by omega) hi with h | h
        · rw [hlow' _ h.2]
        · rw [hbig' _ (by omega)]
          cases hr : ρ (σ i) with
          | none => rfl
          | some l => have := hw.dom _ l hr; omega
    · have hs := hσ.new i (by omega) (by omega)
      by_cases hi2 : i < S2.next
      · rw [hs, hnew' _ (by omega) (by omega)]
        congr 1
        omega
      · rw [hs, hbig' _ (by omega)]
        cases hr : ρ2 i with
        | none => rfl
        | some l => have := hok.rel.dom i l hr; omega
  rw [hρ] at hok hvr
  clear_value ρ'
  refine ⟨ρ', v', w', ?_, VRel.renT hvr, fr, hst, hfn, hlv⟩
  have hle : ρ.Le ρ' := fun i l h => by rw [hlow' i (hw.dom i l h)]; exact h
  have hrelO : ∀ {l : Loc} {o : AO} {o' : Obj}, renO σ o ≠ .dead → ORel P (fun i => ρ' (σ i)) l o o' → ORel P ρ' l (renO σ o) o' := fun hd h => (ORel.renT h).resolve_left hd
  have hnx2 : g.next2 = S2.next := hn2.symm
  -- what lies behind: from the segment, or as it was
  have key : ∀ j o, (setAll (renD σ g.diff) s.heap).get j = some o → (∃ i o0, j = σ i ∧ o = renO σ o0 ∧ S2.heap.get i = some o0 ∧ (g.start.heap.get i = none → ∃ x, (i, x) ∈ g.diff)) ∨ (hasId (renD σ g.diff) j = false ∧ s.heap.get j = some o ∧ ∀ i o', g.start.heap.get i = some o' → renO σ o' ≠ .dead → σ i ≠ j) := fun j o hj => by
    rcases setAll_get s.heap j (renD σ g.diff) with ⟨q1, q2⟩ | ⟨o', q1, q2⟩
    · rw [q2] at hj
      by_cases hex : ∃ i o', g.start.heap.get i = some o' ∧ renO σ o' ≠ .dead ∧ σ i = j
      · obtain ⟨i, o0, h1, h2, rfl⟩ := hex
        have := sget i o0 h1
        rw [hj] at this
        injection this with this
        subst this
        refine .inl ⟨i, o0, rfl, rfl, restAll_get hrest _ (start_get g i o0 h1) ?_, fun h => by rw [h] at h1; cases h1⟩
        cases hh : hasId g.diff i with
        | false => rfl
        | true => rw [renD_has hh] at q1; cases q1
      · exact .inr ⟨q1, hj, fun i o' h1 h2 h3 => hex ⟨i, o', h1, h2, h3⟩⟩
    · rw [q2] at hj
      injection hj with hj
      subst hj
      obtain ⟨i, o0, h1, h2, h3⟩ := renD_mem q1
      exact .inl ⟨i, o0, h2, h3, subAll_get hdiff _ h1, fun _ => ⟨o0, h1⟩⟩
  have hgarb : ∀ j o l, s.heap.get j = some o → o ≠ .dead → (∀ i o', g.start.heap.get i = some o' → renO σ o' ≠ .dead → σ i ≠ j) → ρ' j = some l → ρ j = some l ∧ b'.prot l.blk := fun j o l hj hd hn hl => by
    have hr : ρ j = some l := (hlow' j (sfresh j o hj)).symm.trans hl
    exact ⟨hr, .inr ⟨j, o, l, hj, hd, hr, rfl, hn⟩⟩
  have hdisj : ∀ i o0 j o' l l', S2.heap.get i = some o0 → o0 ≠ .dead → (setAll (renD σ g.diff) s.heap).get (σ i) = some (renO σ o0) → renO σ o0 ≠ .dead → s.heap.get j = some o' → o' ≠ .dead → (∀ i o', g.start.heap.get i = some o' → renO σ o' ≠ .dead → σ i ≠ j) → ρ' (σ i) = some l → ρ' j = some l' → σ i ≠ j → l.blk ≠ l'.blk := fun i o0 j o' l l' hi hd hs2 hd2 hj hd' hn hl hl' hne => by
    obtain ⟨r1, r2⟩ := hgarb j o' l' hj hd' hn hl'
    by_cases hGi : b.G ≤ i
    · intro e
      exact hok.rel.apart i o0 l hGi hi hd hl (by rw [e]; exact r2)
    · rcases setAll_get s.heap (σ i) (renD σ g.diff) with ⟨q1, q2⟩ | ⟨o2, q1, q2⟩
      · rw [q2] at hs2
        have hri : ρ (σ i) = some l := (hlow' _ (sfresh _ _ hs2)).symm.trans hl
        exact hw.inj (σ i) j _ o' l l' hne hs2 hd2 hj hd' hri r1
      · obtain ⟨i2, o3, h1, h2, h3⟩ := renD_mem q1
        have := geL_mem hwf.2 _ h1
        dsimp only at this
        have h4 := sGe i2 this
        rw [← h2, hσ.low i (by omega)] at h4
        omega
  refine ⟨hlow', Nat.le_add_right _ _, fun j hj hn => ?_, ?_⟩
  · -- pend
    dsimp only
    rcases setAll_get s.heap j (renD σ g.diff) with ⟨_, q2⟩ | ⟨o, q1, q2⟩
    · exact q2
    · rw [q2]
      obtain ⟨i, o0, h1, rfl, rfl⟩ := renD_mem q1
      have h5 := subAll_get hdiff _ h1
      dsimp only at h5
      have hlt : i < g.next := by
        rcases Nat.lt_or_ge i g.next with h | h
        · exact h
        · have := geL_mem hwf.2 _ h1
          rw [hσ.new i h this] at hj; omega
      have hp := hok.pend i hlt hn
      rw [h5] at hp
      exact (sget i o0 hp.symm).symm
  · refine ⟨fun j o l hj hd hl => ?_, fun j j' o o' l l' hne hj hd hj' hd' hl hl' => ?_, fun j l hl => ?_, fun j hj => ?_, fun j l hGj hl => ?_, fun q hq => ?_, ?_, ?_, ?_, fun j o l hGj hj hd hl => ?_, fun k hk => ?_⟩
    · rcases key j o hj with ⟨i, o0, rfl, rfl, h, _⟩ | ⟨_, h, hn⟩
      · obtain ⟨x, hx, hr⟩ := hok.rel.heap i o0 l h (rend o0 hd) hl
        exact ⟨x, hx, hrelO hd hr⟩
      · obtain ⟨r1, r2⟩ := hgarb j o l h hd hn hl
        obtain ⟨x, hx, hr⟩ := hw.heap j o l h hd r1
        exact ⟨x, (hok.rel.kept _ r2).2.trans hx, hr.mono hle⟩
    · rcases key j o hj with ⟨i, o0, rfl, rfl, h, _⟩ | ⟨_, h, hn⟩
      · rcases key j' o' hj' with ⟨i', o0', rfl, rfl, h', _⟩ | ⟨_, h', hn'⟩
        · exact hok.rel.inj i i' o0 o0' l l' (fun e => hne (by rw [e])) h (rend o0 hd) h' (rend o0' hd') hl hl'
        · exact hdisj i o0 j' o' l l' h (rend o0 hd) hj hd h' hd' hn' hl hl' hne
      · rcases key j' o' hj' with ⟨i', o0', rfl, rfl, h', _⟩ | ⟨_, h', hn'⟩
        · exact fun e => hdisj i' o0' j o l' l h' (rend o0' hd') hj' hd' h hd hn hl' hl (fun e => hne e.symm) e.symm
        · exact hw.inj j j' o o' l l' hne h hd h' hd' (hgarb j o l h hd hn hl).1 (hgarb j' o' l' h' hd' hn' hl').1
    · show j < s.next + (g.next2 - g.next)
      rcases Nat.lt_or_ge j (s.next + (S2.next - g.next)) with h | h
      · rw [hnx2]; exact h
      · rw [hbig' j h] at hl; cases hl
    · have hj : s.next + (g.next2 - g.next) ≤ j := hj
      dsimp only
      rcases setAll_get s.heap j (renD σ g.diff) with ⟨_, q2⟩ | ⟨o, q1, q2⟩
      · rw [q2]; exact hw.fresh j (by omega)
      · obtain ⟨i, o0, h1, h2, _⟩ := renD_mem q1
        have := ltD_mem hltD _ h1
        dsimp only at this
        omega
    · rcases Nat.lt_or_ge j s.next with h | h
      · rw [hlow' j h] at hl; exact hw.low j l hGj hl
      · rcases Nat.lt_or_ge j (s.next + (S2.next - g.next)) with h2 | h2
        · have hs := hσ.new (g.next + (j - s.next)) (by omega) (by omega)
          have he : σ (g.next + (j - s.next)) = j := by rw [hs]; omega
          exact hok.rel.low (g.next + (j - s.next)) l (by show b.G ≤ _; omega) (by show ρ' (σ _) = _; rw [he]; exact hl)
        · rw [hbig' j h2] at hl; cases hl
    · rw [hlow' q (by omega)]; exact hw.glob q hq
    · show b.G ≤ s.next + (g.next2 - g.next)
      omega
    · exact hok.rel.size
    · exact hw.below.trans (hok.rel.below)
    · rcases key j o hj with ⟨i, o0, rfl, rfl, h, _⟩ | ⟨_, h, hn⟩
      · intro hp
        have hGi : b.G ≤ i := by
          rcases Nat.lt_or_ge i b.G with h' | h'
          · rw [hσ.low i (by omega)] at hGj; omega
          · exact h'
        exact hok.rel.apart i o0 l hGi h (rend o0 hd) hl (.inl hp)
      · exact hw.apart j o l hGj h hd (hgarb j o l h hd hn hl).1
    · exact ⟨(hw.kept k hk).1, (hok.rel.kept k (.inl hk)).2.trans (hw.kept k hk).2⟩
theorem known_KRF (hm : P.follows .mixedOrders = true) (hK : Known P G V K) {n : Nat} (g : Seg) (hwf : g.wf G = true) (hGn : Nat.ble G g.next = true) (hrun : g.ends ((goF P G K n).call g.f g.args g.start) = true) : Known P G V (KR G g) :=
  known_KR (draw_ok hm G) hK g hwf hGn (by rw [← goF_eq]; exact hrun)
/-- Many of these, for some functions. -/
noncomputable def KM (G : Nat) (fs : List FuncId) (gs : List Seg) (f : FuncId) (args : List Value) (s : St) : Option (Value × St) :=
  iff' (fs.any (Nat.beq f)) (List.rec (motive := fun _ => Option (Value × St)) none (fun g _ r => Option.rec (motive := fun _ => Option (Value × St)) r (fun x => some x) (KR G g f args s)) gs) none
theorem KM_mem {f : FuncId} {args : List Value} {s : St} {x : Value × St} : ∀ {gs : List Seg}, List.rec (motive := fun _ => Option (Value × St)) none (fun g _ r => Option.rec (motive := fun _ => Option (Value × St)) r (fun x => some x) (KR G g f args s)) gs = some x → ∃ g ∈ gs, KR G g f args s = some x
  | [], h => by cases h
  | g :: gs, h => by
    have h' : Option.rec (motive := fun _ => Option (Value × St)) (List.rec (motive := fun _ => Option (Value × St)) none (fun g _ r => Option.rec (motive := fun _ => Option (Value × St)) r (fun x => some x) (KR G g f args s)) gs) (fun x => some x) (KR G g f args s) = some x := h
    cases hg : KR G g f args s with
    | some y =>
      rw [hg] at h'
      have h' : some y = some x := h'
      injection h' with h'
      subst h'
      exact ⟨g, by simp, hg⟩
    | none =>
      rw [hg] at h'
      obtain ⟨g', h1, h2⟩ := KM_mem h'
      exact ⟨g', by simp [h1], h2⟩
def Good (P : Program) (G V : Nat) (g : Seg) : Prop := Known P G V (KR G g)
theorem known_KM {fs : List FuncId} {gs : List Seg} (h : ∀ g ∈ gs, Good P G V g) : Known P G V (KM G fs gs) := by
  intro f args s v s2 hk b ρ w args' hbG hw hl cs
  unfold KM at hk
  rw [iff_eq] at hk
  obtain ⟨_, hk⟩ := bif_some hk
  obtain ⟨g, h1, h2⟩ := KM_mem hk
  exact h g h1 h2 hbG hw hl cs
def Kno (_ : FuncId) (_ : List Value) (_ : St) : Option (Value × St) := none
theorem known_no : Known P G V Kno := fun h => by cases h
/-- A segment's three closed facts in one. -/
noncomputable def segOk (P : Program) (G : Nat) (K : FuncId → List Value → St → Option (Value × St)) (n : Nat) (g : Seg) : Bool :=
  iff' (g.wf G) (iff' (Nat.ble G g.next) (g.ends ((goF P G K n).call g.f g.args g.start)) false) false
theorem good_of (hm : P.follows .mixedOrders = true) (hK : Known P G V K) {n : Nat} {g : Seg} (h : segOk P G K n g = true) : Good P G V g := by
  unfold segOk at h
  rw [iff_eq, iff_eq] at h
  cases h1 : g.wf G with
  | false => rw [h1] at h; cases h
  | true =>
    rw [h1] at h
    cases h2 : Nat.ble G g.next with
    | false => rw [h2] at h; cases h
    | true =>
      rw [h2] at h
      exact known_KRF hm hK g h1 h2 h
theorem good_nil : ∀ g ∈ ([] : List Seg), Good P G V g := fun _ h => by cases h
theorem good_cons {g : Seg} {gs : List Seg} (h : Good P G V g) (t : ∀ x ∈ gs, Good P G V x) : ∀ x ∈ g :: gs, Good P G V x := fun x hx => by
  rcases List.mem_cons.1 hx with rfl | hx
  · exact h
  · exact t x hx
/-- The same, at just these ids (a run that others share): found by the next id. -/
def GoodS (P : Program) (G V : Nat) (g : Seg) : Prop := Known P G V (KS g)
theorem goodS_of (hm : P.follows .mixedOrders = true) (hK : Known P G V K) {n : Nat} {g : Seg} (h : segOk P G K n g = true) : GoodS P G V g := by
  unfold segOk at h
  rw [iff_eq, iff_eq] at h
  cases h1 : g.wf G with
  | false => rw [h1] at h; cases h
  | true =>
    rw [h1] at h
    cases h2 : Nat.ble G g.next with
    | false => rw [h2] at h; cases h
    | true =>
      rw [h2] at h
      exact known_segF hm hK g h1 h
theorem goodS_nil : ∀ g ∈ ([] : List Seg), GoodS P G V g := fun _ h => by cases h
theorem goodS_cons {g : Seg} {gs : List Seg} (h : GoodS P G V g) (t : ∀ x ∈ gs, GoodS P G V x) : ∀ x ∈ g :: gs, GoodS P G V x := fun x hx => by
  rcases List.mem_cons.1 hx with rfl | hx
  · exact h
  · exact t x hx
theorem known_KLS {fs : List FuncId} {gs : List Seg} (h : ∀ g ∈ gs, GoodS P G V g) : Known P G V (KL fs gs) := known_KL h
end
end Go.Proofs.YtigdbaicoiepiaaGreatDoor.X

namespace Go.Proofs.YtigdbaicoiepiaaGreatDoor.X
open Go.RowKit

/-! ### What a function reaches, found quicker -/
noncomputable def closF (P : Program) (n : Nat) : List FuncId → List FuncId → Nat → List FuncId :=
  Nat.rec (motive := fun _ => List FuncId → List FuncId → Nat → List FuncId) (fun _ seen _ => seen.reverse)
    (fun _ go todo seen m => List.rec (motive := fun _ => List FuncId) seen.reverse (fun f todo _ =>
      Bool.rec (motive := fun _ => List FuncId) (go (appL (Option.rec (motive := fun _ => List FuncId) [] (fun fn => P.leadsTo fn) (funcF P f)) todo) (f :: seen) (forceN (Nat.lor m (Nat.shiftLeft 1 f)) fun m => m)) (go todo seen m) (bitF m f)) todo) n
theorem bit_or (m f x : Nat) : bitF (Nat.lor m (Nat.shiftLeft 1 f)) x = (x == f || bitF m x) := by
  rw [bitF_eq, bitF_eq]
  show (m ||| 1 <<< f).testBit x = _
  rw [Nat.testBit_or, Nat.one_shiftLeft, Nat.testBit_two_pow, Bool.or_comm]
  congr 1
  rw [Bool.eq_iff_iff]
  simp only [decide_eq_true_eq, beq_iff_eq]
  exact eq_comm
theorem closF_eq (P : Program) : ∀ (n : Nat) (todo seen : List FuncId) (m : Nat), (∀ x, bitF m x = seen.contains x) → closF P n todo seen m = P.closureVia n todo seen
  | 0, _, _, _, _ => by unfold Program.closureVia; rfl
  | n + 1, [], _, _, _ => by unfold Program.closureVia; rfl
  | n + 1, f :: todo, seen, m, h => by
    have e : closF P (n + 1) (f :: todo) seen m = Bool.rec (motive := fun _ => List FuncId) (closF P n (appL (Option.rec (motive := fun _ => List FuncId) [] (fun fn => P.leadsTo fn) (funcF P f)) todo) (f :: seen) (forceN (Nat.lor m (Nat.shiftLeft 1 f)) fun m => m)) (closF P n todo seen m) (bitF m f) := rfl
    rw [e, h f]
    unfold Program.closureVia
    cases hc : seen.contains f with
    | true => exact closF_eq P n todo seen m h
    | false =>
      show closF P n (appL (Option.rec (motive := fun _ => List FuncId) [] (fun fn => P.leadsTo fn) (funcF P f)) todo) (f :: seen) (forceN (Nat.lor m (Nat.shiftLeft 1 f)) fun m => m) = _
      rw [forceN_eq, appL_eq, funcF_eq, closF_eq P n _ (f :: seen) _ (fun x => by rw [bit_or, h x, List.contains_cons])]
      cases P.funcs[f]? <;> rfl
theorem closure_eq (P : Program) (f : FuncId) : P.closure f = closF P (1 + (P.funcs.toList.map fun g => (P.leadsTo g).length + 1).sum) [f] [] 0 := by
  rw [closF_eq P _ [f] [] 0 (fun x => by rw [bitF_eq]; simp)]
  rfl
end Go.Proofs.YtigdbaicoiepiaaGreatDoor.X
