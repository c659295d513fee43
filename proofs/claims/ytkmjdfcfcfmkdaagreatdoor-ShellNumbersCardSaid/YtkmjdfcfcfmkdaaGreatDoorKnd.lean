/- A runner for closed calls, part 4: Yf Yg Yh Yi. -/
import Derived.Test.YtkmjdfcfcfmkdaaGreatDoorKnc
import Derived.Laws.Tables
import Derived.Laws.BytesString
import Derived.Great.BuildSlice
import Derived.Laws.MakeOwn
import Derived.Laws.Append
import Derived.Lib.AppendZerosOnto
namespace Go.Proofs.YtkmjdfcfcfmkdaaGreatDoor.X
open Go.RowKit

section
variable {P : Program} {b : Base} {ρ : Ren} {s : St} {w : World}

def ORelV (ρ : Ren) : Option Value → Option Value → Prop
  | none, o => o = none
  | some v, o => ∃ v', o = some v' ∧ VRel ρ v v'
theorem natOf_ok {d n : Nat} {o o' : Option Value} (h : natOf d o = some n) (hr : ORelV ρ o o') : o' = o ∧ (o = none ∧ n = d ∨ ∃ k i, o = some (.int k i) ∧ 0 ≤ i ∧ n = i.toNat) := by
  cases o with
  | none => simp [natOf] at h; exact ⟨hr, .inl ⟨rfl, h.symm⟩⟩
  | some v =>
    obtain ⟨v', rfl, hv⟩ := hr
    cases hv <;> simp only [natOf] at h <;> first | (cases h; done) | skip
    rename_i k i
    cases hd : decide (0 ≤ i) with
    | false => rw [hd] at h; cases h
    | true =>
      rw [hd] at h
      injection h with h
      exact ⟨rfl, .inr ⟨k, i, rfl, by simpa using hd, h.symm⟩⟩
end
end Go.Proofs.YtkmjdfcfcfmkdaaGreatDoor.X
namespace Go.Proofs.YtkmjdfcfcfmkdaaGreatDoor.X
open Go.RowKit
section
variable {P : Program} {b : Base} {ρ : Ren} {s : St} {w : World}
theorem xb {k : IntKind} {i : Int} {y : Nat} {code : BoundsCode} (h0 : 0 ≤ i) (h1 : i.toNat ≤ y) (w : World) : (Instr.sliceBound (.int k i) y code).run P w = .ok i.toNat w := by
  have : i ≤ (y : Int) := by omega
  simp [Instr.sliceBound, asIntOf, h0, this]
/-- The bounds, without a third one. -/
theorem run_bounds2 (f : Bool) {len cap l h : Nat} {lo hi : Option Value} (hl : lo = none ∧ l = 0 ∨ ∃ k i, lo = some (.int k i) ∧ 0 ≤ i ∧ l = i.toNat) (hh : hi = none ∧ h = len ∨ ∃ k i, hi = some (.int k i) ∧ 0 ≤ i ∧ h = i.toNat)
    (h1 : l ≤ h) (h2 : h ≤ cap) (w : World) : (Instr.sliceBounds f len cap lo hi none).run P w = .ok (l, h, cap) w := by
  rcases hl with ⟨rfl, rfl⟩ | ⟨k, i, rfl, hi0, rfl⟩ <;> rcases hh with ⟨rfl, rfl⟩ | ⟨k', i', rfl, hi0', rfl⟩ <;>
    simp [Instr.sliceBounds, *, xb]
theorem run_bounds3 (f : Bool) {len cap l h : Nat} {lo hi : Option Value} {km : IntKind} {m : Int} (hl : lo = none ∧ l = 0 ∨ ∃ k i, lo = some (.int k i) ∧ 0 ≤ i ∧ l = i.toNat) (hh : ∃ k i, hi = some (.int k i) ∧ 0 ≤ i ∧ h = i.toNat)
    (h1 : l ≤ h) (h2 : h ≤ m.toNat) (h0 : 0 ≤ m) (h3 : m.toNat ≤ cap) (w : World) : (Instr.sliceBounds f len cap lo hi (some (.int km m))).run P w = .ok (l, h, m.toNat) w := by
  obtain ⟨k', i', rfl, hi0', rfl⟩ := hh
  rcases hl with ⟨rfl, rfl⟩ | ⟨k, i, rfl, hi0, rfl⟩ <;>
    simp [Instr.sliceBounds, *, xb]
theorem isInf_sub {c l : Nat} (h : isInf c = false) : isInf (c - l) = false := by
  unfold isInf at *
  cases hb : Nat.ble (2 ^ 63) (c - l) with
  | false => rfl
  | true =>
    have := Nat.le_of_ble_eq_true hb
    rw [Nat.ble_eq_true_of_le (by omega)] at h
    cases h
theorem ARel.base {a a' : Addr} (h : ARel ρ a a') (c : Prop) [Decidable c] (cb : Bool) (hc : cb = decide c) (n : Nat) : ARel ρ (baseAt cb a n) (if c then a' else a'.add n) := by
  subst hc
  unfold baseAt
  by_cases hc : c
  · simp [hc]; exact h
  · simp [hc]; exact h.add n
theorem run_slice_at {t elem : TypeId} {size : Nat} {a' : Option Addr} {len cap l h m : Nat} {lo hi mx : Option Value} (hu : P.underlying t = some (.slice elem)) (hz : szT P elem = some size)
    (hb : ∀ w, (Instr.sliceBounds true len cap lo hi mx).run P w = .ok (l, h, m) w) (w : World) :
    (Instr.sliceAt t (.slice a' len cap) lo hi mx).run P w = .ok (.slice (if m = l then a' else a'.map (·.add (l * size))) (h - l) (m - l)) w := by
  simp [Instr.sliceAt, Instr.slice, xu hu, hb, xs hz]

theorem doSlice_ok {t : TypeId} {x x' v : Value} {lo hi mx lo' hi' mx' : Option Value} {s' : St} (h : doSlice P t x lo hi mx s = .ok v s') (hx : VRel ρ x x') (hlo : ORelV ρ lo lo') (hhi : ORelV ρ hi hi') (hmx : ORelV ρ mx mx') (hw : WRel P b ρ s w) :
    s' = s ∧ QOk P ρ w v (Instr.sliceAt t x' lo' hi' mx') := by
  unfold doSlice at h
  cases hu : P.underlying t with
  | none => rw [hu] at h; cases h
  | some d =>
    rw [hu] at h
    cases d <;> first | (cases h; done) | skip
    case string =>
      cases hx <;> first | (cases h; done) | skip
      case txt c hk =>
        dsimp only at h
        cases h1 : natOf 0 lo with
        | none => rw [h1] at h; cases h
        | some l =>
          cases h2 : natOf (lenL (tL c)) hi with
          | none => rw [h1, h2] at h; cases h
          | some hh =>
            cases mx with
            | some _ => rw [h1, h2] at h; cases h
            | none =>
              rw [h1, h2] at h
              dsimp only at h
              obtain ⟨h3, h⟩ := bif_ok h
              simp only [Bool.and_eq_true] at h3
              have g0 := Nat.eq_of_beq_eq_true h3.1
              have g1 := Nat.le_of_ble_eq_true h3.2.1
              have g2 := Nat.le_of_ble_eq_true h3.2.2
              obtain ⟨bs, rfl, hbs⟩ : ∃ bs : ByteArray, x' = .string bs ∧ TR (tL c) bs.data.toList := by
                rcases hk with ⟨_, bs, e, hb⟩ | ⟨e, _⟩ | ⟨e, _⟩
                · exact ⟨bs, e, hb⟩
                · omega
                · omega
              have hlen : lenL (tL c) = bs.size := by rw [lenL_eq]; exact TR_len hbs
              rw [hlen] at h2 g2
              obtain ⟨rfl, k1⟩ := natOf_ok h1 hlo
              obtain ⟨rfl, k2⟩ := natOf_ok h2 hhi
              have hm : mx' = none := hmx
              subst hm
              rw [takeL_eq, dropL_eq] at h
              have hx2 : TR (((tL c).drop l).take (hh - l)) (bs.extract l hh).data.toList := by
                have e : (bs.extract l hh).data.toList = (bs.data.toList.drop l).take (hh - l) := by
                  rw [ByteArray.data_extract, Array.toList_extract, List.extract_eq_take_drop]
                rw [e]
                exact TR_take _ (TR_drop _ hbs)
              obtain ⟨e, hv⟩ := mkTxt_ok (ρ := ρ) h hx2
              refine ⟨e, _, hv, ?_⟩
              have := run_bounds2 (P := P) false k1 k2 g1 g2 w
              simp [Instr.sliceAt, Instr.slice, xu hu, this]
      rename_i bs
      dsimp only at h
      cases h1 : natOf 0 lo with
      | none => rw [h1] at h; cases h
      | some l =>
        cases h2 : natOf (lenL bs.data.toList) hi with
        | none => rw [h1, h2] at h; cases h
        | some hh =>
          cases mx with
          | some _ => rw [h1, h2] at h; cases h
          | none =>
            rw [h1, h2] at h
            have hsz : lenL bs.data.toList = bs.size := by rw [lenL_eq]; rfl
            rw [hsz] at h2 h
            obtain ⟨h3, h⟩ := bif_ok h
            rw [forceL_eq, takeL_eq, dropL_eq] at h
            have hex : (⟨⟨(bs.data.toList.drop l).take (hh - l)⟩⟩ : ByteArray) = bs.extract l hh := by
              have e : (bs.extract l hh).data.toList = (bs.data.toList.drop l).take (hh - l) := by
                rw [ByteArray.data_extract, Array.toList_extract, List.extract_eq_take_drop]
              rw [← e]
            rw [hex] at h
            injection h with h4 h5
            subst h4; subst h5
            simp only [Bool.and_eq_true] at h3
            obtain ⟨rfl, k1⟩ := natOf_ok h1 hlo
            obtain ⟨rfl, k2⟩ := natOf_ok h2 hhi
            have hm : mx' = none := hmx
            subst hm
            refine ⟨rfl, _, .string _, ?_⟩
            have := run_bounds2 (P := P) false k1 k2 (Nat.le_of_ble_eq_true h3.1) (Nat.le_of_ble_eq_true h3.2) w
            simp [Instr.sliceAt, Instr.slice, xu hu, this]
    case slice elem =>
      cases hx <;> first | (cases h; done) | skip
      case sliceN len cap =>
        dsimp only at h
        cases hz : szT P elem with
        | none => rw [hz] at h; cases h
        | some size =>
          cases h1 : natOf 0 lo with
          | none => rw [hz, h1] at h; cases h
          | some l =>
            cases h2 : natOf len hi with
            | none => rw [hz, h1, h2] at h; cases h
            | some hh =>
              obtain ⟨rfl, k1⟩ := natOf_ok h1 hlo
              obtain ⟨rfl, k2⟩ := natOf_ok h2 hhi
              cases mx with
              | none =>
                have hm : mx' = none := hmx
                subst hm
                rw [hz, h1, h2] at h
                obtain ⟨h3, h⟩ := bif_ok h
                injection h with h4 h5
                subst h4; subst h5
                simp only [Bool.and_eq_true] at h3
                have e1 := Nat.eq_of_beq_eq_true h3.1.1
                have e2 := Nat.eq_of_beq_eq_true h3.1.2
                have e3 := Nat.eq_of_beq_eq_true h3.2.1
                have e4 := Nat.eq_of_beq_eq_true h3.2.2
                subst e1; subst e2; subst e3; subst e4
                refine ⟨rfl, _, .sliceN _ _, ?_⟩
                have := run_slice_at (P := P) (a' := none) hu hz (fun w => run_bounds2 (P := P) true k1 k2 (Nat.le_refl _) (Nat.le_refl _) w) w
                simpa using this
              | some mv =>
                obtain ⟨mv', rfl, hmv⟩ := hmx
                rw [hz, h1, h2] at h
                cases hmv <;> first | (cases h; done) | skip
                rename_i km m
                dsimp only at h
                obtain ⟨h3, h⟩ := bif_ok h
                injection h with h4 h5
                subst h4; subst h5
                simp only [Bool.and_eq_true, decide_eq_true_eq] at h3
                have e1 := Nat.eq_of_beq_eq_true h3.1.1.1
                have e2 := Nat.eq_of_beq_eq_true h3.1.1.2
                have e3 := Nat.eq_of_beq_eq_true h3.1.2.1
                have e4 := Nat.eq_of_beq_eq_true h3.1.2.2
                subst e1; subst e2; subst e3; subst e4
                obtain ⟨_, h7, h8⟩ := h3
                subst h8
                have k2' : ∃ k i, hi' = some (.int k i) ∧ 0 ≤ i ∧ 0 = i.toNat := by
                  rcases k2 with ⟨e, _⟩ | k2
                  · rw [e] at h7; cases h7
                  · exact k2
                refine ⟨rfl, _, .sliceN _ _, ?_⟩
                have := run_slice_at (P := P) (a' := none) (len := 0) hu hz (fun w => run_bounds3 (P := P) (km := km) true k1 k2' (Nat.le_refl _) (Nat.le_refl _) (Int.le_refl _) (Nat.le_refl _) w) w
                simpa using this
      case sliceE a a' c c' hsp =>
        dsimp only at h
        cases hz : szT P elem with
        | none => rw [hz] at h; cases h
        | some size =>
          cases h1 : natOf 0 lo with
          | none => rw [hz, h1] at h; cases h
          | some l =>
            cases h2 : natOf 0 hi with
            | none => rw [hz, h1, h2] at h; cases h
            | some hh =>
              obtain ⟨rfl, k1⟩ := natOf_ok h1 hlo
              obtain ⟨rfl, k2⟩ := natOf_ok h2 hhi
              rw [hz, h1, h2] at h
              dsimp only at h
              rw [hsp] at h
              simp only [cond_true] at h
              cases mx with
              | some _ => cases h
              | none =>
                have hm : mx' = none := hmx
                subst hm
                dsimp only at h
                obtain ⟨h3, h⟩ := bif_ok h
                injection h with h4 h5
                subst h4; subst h5
                simp only [Bool.and_eq_true] at h3
                have e1 := Nat.eq_of_beq_eq_true h3.1
                have e2 := Nat.eq_of_beq_eq_true h3.2
                subst e1; subst e2
                have hrun := run_slice_at (P := P) (a' := some a') hu hz (fun w => run_bounds2 (P := P) true k1 k2 (Nat.le_refl _) (Nat.zero_le c') w) w
                refine ⟨rfl, .slice (some (if c' = 0 then a' else a'.add (0 * size))) 0 (c' - 0), .sliceE _ _ _ _ hsp, ?_⟩
                rw [hrun]
                split <;> rfl
      case slice a a' len cap cap' ha hc =>
        dsimp only at h
        cases hz : szT P elem with
        | none => rw [hz] at h; cases h
        | some size =>
          cases h1 : natOf 0 lo with
          | none => rw [hz, h1] at h; cases h
          | some l =>
            cases h2 : natOf len hi with
            | none => rw [hz, h1, h2] at h; cases h
            | some hh =>
              rw [hz, h1, h2] at h
              obtain ⟨rfl, k1⟩ := natOf_ok h1 hlo
              obtain ⟨rfl, k2⟩ := natOf_ok h2 hhi
              dsimp only at h
              rw [ha.1] at h
              simp only [Option.isSome_none, cond_false] at h
              -- what is known of a row of an open capacity
              have open_ : ∀ {cs : List Value} {e : TypeId} {lo : Bool} {n : Nat}, getRow s a = some (cs, e, lo) → isInf cap = true → a.off + n * size ≤ cs.length → a.off = (INF - cap) * size → 0 < size → e = elem → lo = true → n ≤ cap' := by
                intro cs e lo n hr hi hfit hoff hs he hlo
                subst he; subst hlo
                obtain ⟨k, c, fz, hk, rfl, hg, hcc, hrr⟩ := hw.row hr ha
                have hc2 := hc.2
                rw [if_pos hi] at hc2
                obtain ⟨hle, k', hk', hcap⟩ := hc2
                rw [hk] at hk'
                injection hk' with hk'
                subst hk'
                have h3 := (hrr.2.2.2 rfl size hz).1
                rw [hoff] at hfit
                have h4 : ((INF - cap) + n) * size ≤ k.cap * size := by rw [Nat.add_mul]; omega
                have h5 := Nat.le_of_mul_le_mul_right h4 hs
                omega
              cases mx with
              | none =>
                have hm : mx' = none := hmx
                subst hm
                dsimp only at h
                cases hi : isInf cap with
                | true =>
                  rw [hi] at h
                  simp only [cond_true] at h
                  cases hr : getRow s a with
                  | none => rw [hr] at h; cases h
                  | some y =>
                    obtain ⟨cs, e, lo⟩ := y
                    rw [hr] at h
                    dsimp only at h
                    obtain ⟨h3, h⟩ := bif_ok h
                    simp only [Bool.and_eq_true, lenL_eq] at h3
                    obtain ⟨⟨g1, g2⟩, ⟨g3, g4⟩, ⟨g5, g6⟩, g7, g8⟩ := h3
                    have g1 := Nat.le_of_ble_eq_true g1
                    have hcc := open_ hr hi (Nat.le_of_ble_eq_true g2) (Nat.eq_of_beq_eq_true g4) (Nat.le_of_ble_eq_true g5) (Nat.eq_of_beq_eq_true g7) g8
                    have hrun := run_slice_at (P := P) (a' := some a') hu hz (fun w => run_bounds2 (P := P) true k1 k2 g1 hcc w) w
                    cases hlt : (Nat.beq l 0 || Nat.blt l hh) with
                    | true =>
                      rw [hlt] at h
                      simp only [cond_true] at h
                      injection h with h4 h5
                      subst h4; subst h5
                      have hbase : (if cap' = l then some a' else (some a').map (·.add (l * size))) = some (a'.add (l * size)) := by
                        simp only [Bool.or_eq_true] at hlt
                        rcases hlt with hlt | hlt
                        · have := Nat.eq_of_beq_eq_true hlt
                          subst this
                          rw [Nat.zero_mul]
                          have : a'.add 0 = a' := by simp [Addr.add]
                          split <;> simp [this]
                        · have hlt : l < hh := Nat.le_of_ble_eq_true hlt
                          rw [if_neg (by omega)]; rfl
                      rw [hbase] at hrun
                      refine ⟨rfl, _, .slice _ _ _ _ _ (ha.add (l * size)) ⟨by omega, ?_⟩, hrun⟩
                      rw [if_pos g6]
                      have hc2 := hc.2
                      rw [if_pos hi] at hc2
                      obtain ⟨hle, k', hk', hcap⟩ := hc2
                      refine ⟨by omega, k', hk', ?_⟩
                      unfold isInf at g6
                      have g6 := Nat.le_of_ble_eq_true g6
                      omega
                    | false =>
                      rw [hlt] at h
                      simp only [cond_false] at h
                      injection h with h4 h5
                      subst h4; subst h5
                      have hlt : ¬ l < hh := fun h => by
                        rw [show Nat.blt l hh = true from Nat.ble_eq_true_of_le h] at hlt; simp at hlt
                      have hlh : hh - l = 0 := by omega
                      rw [hlh] at hrun
                      refine ⟨rfl, .slice (some (if cap' = l then a' else a'.add (l * size))) 0 (cap' - l), .sliceE _ _ _ _ rfl, ?_⟩
                      rw [hrun]
                      split <;> rfl
                | false =>
                  rw [hi] at h
                  simp only [cond_false] at h
                  obtain ⟨h3, h⟩ := bif_ok h
                  injection h with h4 h5
                  subst h4; subst h5
                  simp only [Bool.and_eq_true] at h3
                  have hc2 := hc.2
                  rw [if_neg (by rw [hi]; simp)] at hc2
                  subst hc2
                  have g1 := Nat.le_of_ble_eq_true h3.1
                  have g2 := Nat.le_of_ble_eq_true h3.2
                  have hrun := run_slice_at (P := P) (a' := some a') hu hz (fun w => run_bounds2 (P := P) true k1 k2 g1 g2 w) w
                  refine ⟨rfl, .slice (some (if cap' = l then a' else a'.add (l * size))) (hh - l) (cap' - l), .slice _ _ _ _ _ (ha.base (cap' = l) _ (by rw [Bool.eq_iff_iff]; simp) (l * size)) ⟨by omega, by rw [if_neg (by rw [isInf_sub hi]; simp)]⟩, ?_⟩
                  rw [hrun]
                  split <;> rfl
              | some mv =>
                obtain ⟨mv', rfl, hmv⟩ := hmx
                cases hmv <;> first | (cases h; done) | skip
                rename_i km m
                dsimp only at h
                obtain ⟨h3, h⟩ := bif_ok h
                simp only [Bool.and_eq_true, decide_eq_true_eq, Bool.not_eq_true'] at h3
                obtain ⟨⟨g0, g1⟩, ⟨g2, g3⟩, g4⟩ := h3
                have g2 := Nat.le_of_ble_eq_true g2
                have g3 := Nat.le_of_ble_eq_true g3
                have k2' : ∃ k i, hi' = some (.int k i) ∧ 0 ≤ i ∧ hh = i.toNat := by
                  rcases k2 with ⟨e, _⟩ | k2
                  · rw [e] at g0; cases g0
                  · exact k2
                have fin : m.toNat ≤ cap' → v = .slice (some (baseAt (Nat.beq m.toNat l) a (l * size))) (hh - l) (m.toNat - l) → s' = s → s' = s ∧ QOk P ρ w v (Instr.sliceAt t (.slice (some a') len cap') lo' hi' (some (.int km m))) := by
                  rintro hmc rfl rfl
                  have hrun := run_slice_at (P := P) (a' := some a') (len := len) hu hz (fun w => run_bounds3 (P := P) (km := km) true k1 k2' g2 g3 g1 hmc w) w
                  refine ⟨rfl, .slice (some (if m.toNat = l then a' else a'.add (l * size))) (hh - l) (m.toNat - l), .slice _ _ _ _ _ (ha.base (m.toNat = l) _ (by rw [Bool.eq_iff_iff]; simp) (l * size)) ⟨by omega, by rw [if_neg (by rw [isInf_sub g4]; simp)]⟩, ?_⟩
                  rw [hrun]
                  split <;> rfl
                cases hi : isInf cap with
                | true =>
                  rw [hi] at h
                  simp only [cond_true] at h
                  cases hr : getRow s a with
                  | none => rw [hr] at h; cases h
                  | some y =>
                    obtain ⟨cs, e, lo⟩ := y
                    rw [hr] at h
                    dsimp only at h
                    obtain ⟨h3, h⟩ := bif_ok h
                    simp only [Bool.and_eq_true, lenL_eq] at h3
                    obtain ⟨h3, ⟨h4, h5⟩, h6, h7, h8⟩ := h3
                    injection h with e1 e2
                    exact fin (open_ hr hi (Nat.le_of_ble_eq_true h3) (Nat.eq_of_beq_eq_true h5) (Nat.le_of_ble_eq_true h6) (Nat.eq_of_beq_eq_true h7) h8) e1.symm e2.symm
                | false =>
                  rw [hi] at h
                  simp only [cond_false] at h
                  obtain ⟨h3, h⟩ := bif_ok h
                  injection h with e1 e2
                  have hc2 := hc.2
                  rw [if_neg (by rw [hi]; simp)] at hc2
                  exact fin (by rw [hc2]; exact Nat.le_of_ble_eq_true h3) e1.symm e2.symm
    case array n elem =>
      cases hx <;> first | (cases h; done) | skip
      rename_i a a' ha
      dsimp only at h
      cases hz : szT P elem with
      | none => rw [hz] at h; cases h
      | some size =>
        cases h1 : natOf 0 lo with
        | none => rw [hz, h1] at h; cases h
        | some l =>
          cases h2 : natOf n hi with
          | none => rw [hz, h1, h2] at h; cases h
          | some hh =>
            cases mx with
            | some _ => rw [hz, h1, h2] at h; cases h
            | none =>
              have hm : mx' = none := hmx
              subst hm
              rw [hz, h1, h2] at h
              obtain ⟨rfl, k1⟩ := natOf_ok h1 hlo
              obtain ⟨rfl, k2⟩ := natOf_ok h2 hhi
              obtain ⟨h3, h⟩ := bif_ok h
              injection h with e1 e2
              subst e1; subst e2
              simp only [Bool.and_eq_true, Bool.not_eq_true'] at h3
              have g1 := Nat.le_of_ble_eq_true h3.1.1
              have g2 := Nat.le_of_ble_eq_true h3.1.2
              have := run_bounds2 (P := P) false k1 k2 g1 g2 w
              refine ⟨rfl, .slice (some (if n = l then a' else a'.add (l * size))) (hh - l) (n - l), .slice _ _ _ _ _ (ha.base (n = l) _ (by rw [Bool.eq_iff_iff]; simp) (l * size)) ⟨by omega, by rw [if_neg (by rw [isInf_sub h3.2]; simp)]⟩, ?_⟩
              simp [Instr.sliceAt, Instr.sureAddr, xu hu, this, xs hz]
end
end Go.Proofs.YtkmjdfcfcfmkdaaGreatDoor.X

namespace Go.Proofs.YtkmjdfcfcfmkdaaGreatDoor.X
open Go.RowKit

section
variable {P : Program} {b : Base} {ρ : Ren} {s : St} {w : World}

theorem doIndex_ok {t : TypeId} {x x' i i' v : Value} {s' : St} (h : doIndex P t x i s = .ok v s') (hx : VRel ρ x x') (hi : VRel ρ i i') : s' = s ∧ QOk P ρ w v (Instr.index t x' i') := by
  unfold doIndex at h
  cases hu : P.underlying t with
  | none => rw [hu] at h; cases h
  | some d =>
    rw [hu] at h
    cases d <;> first | (cases h; done) | skip
    case array n e =>
      cases hx <;> first | (cases h; done) | skip
      cases hi <;> first | (cases h; done) | skip
      rename_i a a' ha k m
      dsimp only at h
      obtain ⟨z, hz, h⟩ := ofO_ok h
      obtain ⟨h1, h⟩ := bif_ok h
      simp only [Bool.and_eq_true, decide_eq_true_eq] at h1
      obtain ⟨h2, u', h3, h4⟩ := partOf_ok (w := w) h ha
      refine ⟨h2, u', h3, ?_⟩
      simp [Instr.index, asIntOf, xu hu, h1, xs hz, h4]
    case string =>
      cases hx <;> first | (cases h; done) | skip
      case txt c hk =>
        cases hi <;> first | (cases h; done) | skip
        rename_i k m
        dsimp only at h
        obtain ⟨h1, h⟩ := bif_ok h
        simp only [Bool.and_eq_true, decide_eq_true_eq] at h1
        have g0 := Nat.eq_of_beq_eq_true h1.1
        obtain ⟨p, hp, h⟩ := ofO_ok h
        rw [nth_eq] at hp
        obtain ⟨bs, rfl, hbs⟩ : ∃ bs : ByteArray, x' = .string bs ∧ TR (tL c) bs.data.toList := by
          rcases hk with ⟨_, bs, e, hb⟩ | ⟨e, _⟩ | ⟨e, _⟩
          · exact ⟨bs, e, hb⟩
          · omega
          · omega
        obtain ⟨y, hy, y1, y2⟩ := TR_get hbs hp
        obtain ⟨e, hv⟩ := mkR_ok (ρ := ρ) h y1 y2
        refine ⟨e, _, hv, ?_⟩
        have hg : bs[m.toNat]? = some y := by
          rw [Array.getElem?_toList] at hy
          obtain ⟨hl, he⟩ := Array.getElem?_eq_some_iff.1 hy
          have hl' : m.toNat < bs.size := hl
          rw [getElem?_pos bs m.toNat hl']
          exact congrArg some he
        simp [Instr.index, asIntOf, xu hu, h1.2, hg]
      cases hi <;> first | (cases h; done) | skip
      rename_i bs k m
      dsimp only at h
      obtain ⟨h1, h⟩ := bif_ok h
      obtain ⟨c, hc, h⟩ := ofO_ok h
      injection h with e1 e2
      subst e1; subst e2
      rw [nth_eq] at hc
      have h1' : 0 ≤ m := by simpa using h1
      refine ⟨rfl, _, .int _ _, ?_⟩
      have hg : bs[m.toNat]? = some c := by
        rw [Array.getElem?_toList] at hc
        obtain ⟨hl, he⟩ := Array.getElem?_eq_some_iff.1 hc
        have hl' : m.toNat < bs.size := hl
        rw [getElem?_pos bs m.toNat hl']
        exact congrArg some he
      simp [Instr.index, asIntOf, xu hu, h1', hg]

theorem doExtract_ok {x x' v : Value} {i : Nat} {vs : List Value} (hx : x = .tuple ⟨vs⟩) (hv : nth vs i = some v) (h : VRel ρ x x') : QOk P ρ w v (Instr.extract x' i) := by
  subst hx
  cases h
  rename_i a ha
  rw [nth_eq] at hv
  obtain ⟨v', h1, h2⟩ := ha.get hv
  exact ⟨v', h2, by simp [Instr.extract, h1]⟩

theorem lenAny_eq (q : Nat) : lenAny (.chan (some (q + 1))) s = bif Nat.ble (q + 1) 1 then .no 98 1 else bif Nat.beq (q % 2) 1 then mkR .i64 0 (q / 2) s else mkR .i64 (q / 2) 9223372036854775807 s := by
  unfold lenAny
  simp only [Nat.add_sub_cancel]
theorem lenA_hi {q n : Nat} {v : Value} {s' : St} (h : (bif Nat.ble (q + 1) 1 then .no 98 1 else bif Nat.beq (q % 2) 1 then mkR .i64 0 (q / 2) s else mkR .i64 (q / 2) 9223372036854775807 s) = Rs.ok v s') (hb : n ≤ 9223372036854775807) (h0 : q / 2 ≤ n) (hm : Nat.beq (q % 2) 1 = false) (hq : Nat.ble (q + 1) 1 = false) : s' = s ∧ VRel ρ v (.int .i64 (n : Int)) := by
  rw [hq, cond_false, hm, cond_false] at h
  exact mkR_ok h h0 hb
theorem lenA_lo {q n : Nat} {v : Value} {s' : St} (h : (bif Nat.ble (q + 1) 1 then .no 98 1 else bif Nat.beq (q % 2) 1 then mkR .i64 0 (q / 2) s else mkR .i64 (q / 2) 9223372036854775807 s) = Rs.ok v s') (h0 : n ≤ q / 2) (hm : Nat.beq (q % 2) 1 = true) (hq : Nat.ble (q + 1) 1 = false) : s' = s ∧ VRel ρ v (.int .i64 (n : Int)) := by
  rw [hq, cond_false, hm, cond_true] at h
  exact mkR_ok h (Nat.zero_le n) h0
theorem lenAny_ok {q n : Nat} {v : Value} {s' : St} (h : lenAny (.chan (some (q + 1))) s = .ok v s') (hb : n ≤ 9223372036854775807 ∧ (q = 0 ∨ if q % 2 = 1 then n ≤ q / 2 else q / 2 ≤ n)) : s' = s ∧ VRel ρ v (.int .i64 (n : Int)) := by
  rw [lenAny_eq] at h
  obtain ⟨hb1, hb2⟩ := hb
  have h0 : Nat.ble (q + 1) 1 = false → q ≠ 0 := fun hq e => by subst e; exact absurd hq (by decide)
  by_cases hq : Nat.ble (q + 1) 1 = true
  · rw [hq, cond_true] at h; cases h
  · have hq := Bool.not_eq_true _ ▸ hq
    have hb3 := hb2.resolve_left (h0 hq)
    by_cases hm : q % 2 = 1
    · rw [if_pos hm] at hb3
      exact lenA_lo h hb3 (by rw [hm]; rfl) hq
    · rw [if_neg hm] at hb3
      exact lenA_hi h hb1 hb3 (Bool.eq_false_iff.2 fun e => hm (Nat.eq_of_beq_eq_true e)) hq
theorem doLen_ok {ts : Array TypeId} {ty : TypeId} {args args' : List Value} {v : Value} {s' : St} (h : doLen P ts.toList args s = .ok v s') (ha : LRel ρ args args') (hw : WRel P b ρ s w) : s' = s ∧ QOk P ρ w v (Builtin.len_ ts ty ⟨args'⟩) := by
  unfold doLen at h
  obtain ⟨ts⟩ := ts
  cases ts with
  | nil => cases h
  | cons t r =>
    cases ha with
    | nil => cases h
    | cons x x' l l' hx hl =>
      cases hl with
      | cons _ _ _ _ _ _ => cases h
      | nil =>
        dsimp only at h
        cases hu : P.underlying t with
        | none => rw [hu] at h; cases h
        | some d =>
          rw [hu] at h
          cases d <;> first | (cases h; done) | skip
          case string =>
            cases hx <;> first | (cases h; done) | skip
            case txt c hk =>
              obtain ⟨h1, h⟩ := bif_ok h
              have g0 := Nat.eq_of_beq_eq_true h1
              injection h with e1 e2
              subst e1; subst e2
              obtain ⟨bs, rfl, hbs⟩ : ∃ bs : ByteArray, x' = .string bs ∧ TR (tL c) bs.data.toList := by
                rcases hk with ⟨_, bs, e, hb⟩ | ⟨e, _⟩ | ⟨e, _⟩
                · exact ⟨bs, e, hb⟩
                · omega
                · omega
              have hlen : lenL (tL c) = bs.size := by rw [lenL_eq]; exact TR_len hbs
              rw [hlen]
              exact ⟨rfl, _, .int _ _, by simp [Builtin.len_, xu hu, goInt]⟩
            all_goals
              injection h with e1 e2
              subst e1; subst e2
              exact ⟨rfl, _, .int _ _, by first | (simp [Builtin.len_, xu hu, goInt, letS_size]; done) | (simp [Builtin.len_, xu hu, goInt]; rw [lenL_eq]; rfl)⟩
          case array n e =>
            injection h with e1 e2
            subst e1; subst e2
            refine ⟨rfl, _, .int _ _, ?_⟩
            cases hx <;> first
              | (rename_i hk; rcases TOk.forms hk with ⟨b, rfl⟩ | ⟨x, rfl⟩ | rfl | ⟨t, u, rfl⟩ <;> simp [Builtin.len_, xu hu, goInt])
              | simp [Builtin.len_, xu hu, goInt]
          case slice e =>
            cases hx <;> first | (cases h; done) | skip
            case anyS q a n c hb =>
              have hrun : (Builtin.len_ ⟨t :: r⟩ ty ⟨[.slice a n c]⟩).run P w = .ok (.int .i64 (n : Int)) w := by simp [Builtin.len_, xu hu, goInt]
              obtain ⟨e1, e2⟩ := lenAny_ok (ρ := ρ) h hb
              exact ⟨e1, _, e2, hrun⟩
            all_goals
              injection h with e1 e2
              subst e1; subst e2
              exact ⟨rfl, _, .int _ _, by simp [Builtin.len_, xu hu, goInt]⟩
          case map k e =>
            cases hx <;> first | (cases h; done) | skip
            · injection h with e1 e2
              subst e1; subst e2
              exact ⟨rfl, _, .int _ _, by simp [Builtin.len_, xu hu, goInt]⟩
            · rename_i r k' hr
              dsimp only at h
              obtain ⟨m, hm, h⟩ := ofO_ok h
              injection h with e1 e2
              subst e1; subst e2
              unfold mapOf at hm
              cases hg : s.heap.get r with
              | none => rw [hg] at hm; cases hm
              | some o =>
                rw [hg] at hm
                cases o <;> first | (cases hm; done) | skip
                rename_i o
                cases o <;> first | (cases hm; done) | skip
                rename_i entries clk
                injection hm with hm
                subst hm
                obtain ⟨o', h1, _, es', rfl, he⟩ := hw.heap _ _ _ hg (by simp) hr
                refine ⟨rfl, _, .int _ _, ?_⟩
                have hlen : ∀ {l l' : List MapEntry}, ERel ρ l l' → l.length = l'.length := by
                  intro l l' h
                  induction h with
                  | nil => rfl
                  | cons _ _ _ _ _ _ ih => simp [ih]
                have := hlen he
                have this' : (es'.length : Int) = (entries.size : Int) := by rw [← this]; simp
                simp [Builtin.len_, xu hu, goInt, getObj, Sem.run, h1, this']

theorem toBytes_cons (v : Value) (l : List Value) : toBytes (v :: l) = (match v, toBytes l with | .int .u8 n, some r => some (UInt8.ofNat n.toNat :: r) | _, _ => none) := rfl
theorem toBytes_ok : ∀ {l : List Value} {bs : List UInt8}, toBytes l = some bs → ∃ ns : List Int, l = ns.map (Value.int .u8) ∧ bs = ns.map fun n => UInt8.ofNat n.toNat
  | [], bs, h => ⟨[], rfl, by simpa [toBytes] using h.symm⟩
  | v :: l, bs, h => by
    rw [toBytes_cons] at h
    cases v <;> first | (simp at h; done) | skip
    rename_i k n
    cases k <;> first | (simp at h; done) | skip
    cases hl : toBytes l with
    | none => rw [hl] at h; simp at h
    | some r =>
      rw [hl] at h
      simp only [Option.some.injEq] at h
      subst h
      obtain ⟨ns, rfl, rfl⟩ := toBytes_ok hl
      exact ⟨n :: ns, rfl, rfl⟩
theorem push_all : ∀ (ns : List Int) (acc : ByteArray), ns.foldl (fun (r : ByteArray) n => r.push (UInt8.ofNat n.toNat)) acc = ⟨acc.data ++ ⟨ns.map fun n => UInt8.ofNat n.toNat⟩⟩
  | [], acc => by simp
  | n :: ns, acc => by
    rw [List.foldl_cons, push_all ns]
    congr 1
    apply Array.ext'
    simp [ByteArray.push]
theorem flats_ints (ns : List Int) (k : IntKind) : flats (ns.map (Value.int k)) = true := by
  induction ns with
  | nil => rfl
  | cons n ns ih => simpa [flats, flat] using ih

theorem rowOf_ok {n size : Nat} {a a' : Addr} {l : List Value} (h : rowOf n size a s = some l) (ha : ARel ρ a a') (hw : WRel P b ρ s w) : ∃ l', LRel ρ l l' ∧ l'.length = n * size ∧ (loadCells a' (n * size)).run P w = .ok ⟨l'⟩ w := by
  unfold rowOf at h
  cases hr : getRow s a with
  | none => rw [hr] at h; cases h
  | some x =>
    obtain ⟨cs, e, lo⟩ := x
    rw [hr] at h
    dsimp only at h
    rw [takeL_eq, dropL_eq, lenL_eq] at h
    cases hb : Nat.beq ((cs.drop a.off).take (n * size)).length (n * size) with
    | false => rw [hb] at h; cases h
    | true =>
      rw [hb] at h
      injection h with h
      subst h
      obtain ⟨k, c, fz, hk, rfl, hg, hc, hrr⟩ := hw.row hr ha
      obtain ⟨h4, h5⟩ := row_sub hrr (n * size) a.off (Nat.eq_of_beq_eq_true hb)
      exact ⟨_, h4, h5, run_cells hc h5⟩

/-- What is turned into another type, but for bytes of a string. -/
theorem doConvert_ok {src dst : TypeId} {x x' v : Value} {s' : St} (h : doConvert P src dst x s = .ok v s') (hx : VRel ρ x x') (hw : WRel P b ρ s w) (hn : ∀ e, P.underlying dst ≠ some (.slice e)) :
    s' = s ∧ QOk P ρ w v (convert src dst x') := by
  have hflat : doFlat P x (convert src dst x) s = .ok v s' → s' = s ∧ QOk P ρ w v (convert src dst x') := fun h => by
    obtain ⟨h1, h2, h3⟩ := doFlat_ok (ρ := ρ) (w := w) (_a' := x') h
    rw [flat_eq hx h2]
    exact ⟨h1, h3⟩
  unfold doConvert at h
  cases hd : P.underlying dst with
  | none => rw [hd] at h; exact hflat h
  | some d =>
    rw [hd] at h
    cases d <;> first | exact absurd hd (hn _) | exact hflat h | skip
    case int k =>
      dsimp only at h
      cases hfl : flat x with
      | true => rw [hfl] at h; exact hflat h
      | false =>
        rw [hfl] at h
        simp only [cond_false] at h
        cases hsrc : P.underlying src with
        | none => rw [hsrc] at h; cases h
        | some d =>
          rw [hsrc] at h
          dsimp only at h
          cases hsy : (isSym x && decide (k = .i64)) with
          | true =>
            rw [hsy] at h
            injection h with e1 e2
            subst e1; subst e2
            simp only [Bool.and_eq_true, decide_eq_true_eq] at hsy
            obtain ⟨hs1, rfl⟩ := hsy
            unfold isSym at hs1
            split at hs1
            · rename_i i z
              simp only [Bool.and_eq_true, Bool.not_eq_true'] at hs1
              have h0 : z ≠ 0 := fun e => by subst e; cases hs1.1
              have h1 := Nat.le_of_ble_eq_true hs1.2
              have hx0 := hx
              cases hx
              rename_i l u hl hu
              have hu2 := hu.2 h0
              refine ⟨rfl, _, hx0, ?_⟩
              have hwr := mx_wrap .i64 u.toNat (by show _ ≤ 9223372036854775807; omega)
              rw [Int.toNat_of_nonneg (by omega)] at hwr
              unfold convert
              simp only [Sem.run_bind, xu hsrc, xu hd, Result.andThen_ok, Conv.intToInt, hwr, Sem.run_pure]
            · cases hs1
          | false =>
            rw [hsy] at h
            simp only [cond_false] at h
            obtain ⟨k', n, rfl, e, hv⟩ := convR_ok h hx
            refine ⟨e, _, hv, ?_⟩
            unfold convert
            simp only [Sem.run_bind, xu hsrc, xu hd, Result.andThen_ok, Conv.intToInt, Sem.run_pure]
    dsimp only at h
    cases hx <;> first | (refine hflat ?_; exact h) | skip
    case sliceE a a' c c' hsp =>
      dsimp only at h
      rw [hsp] at h
      simp only [cond_true] at h
      have h : doNoBytes P src s = .ok v s' := h
      unfold doNoBytes at h
      cases hsrc : P.underlying src with
      | none => rw [hsrc] at h; cases h
      | some d =>
        rw [hsrc] at h
        cases d <;> first | (cases h; done) | skip
        rename_i e
        dsimp only at h
        cases he : P.underlying e with
        | none => rw [he] at h; cases h
        | some d2 =>
          rw [he] at h
          cases d2 <;> first | (cases h; done) | skip
          rename_i k
          cases k <;> first | (cases h; done) | skip
          injection h with e3 e4
          subst e3; subst e4
          refine ⟨rfl, _, .string _, ?_⟩
          rw [run_convert_bytes_string w src dst e (some a') 0 c' hsrc he hd, run_bytesToString w a' 0 c' [] rfl, push_all]
          congr 3
    case slice a a' n c c' ha hc =>
      dsimp only at h
      rw [ha.1] at h
      simp only [Option.isSome_none, cond_false] at h
      unfold doToString at h
      cases hsrc : P.underlying src with
      | none => rw [hsrc] at h; cases h
      | some d =>
        rw [hsrc] at h
        cases d <;> first | (cases h; done) | skip
        rename_i e
        dsimp only at h
        cases he : P.underlying e with
        | none => rw [he] at h; cases h
        | some d2 =>
          rw [he] at h
          cases d2 <;> first | (cases h; done) | skip
          rename_i k
          cases k <;> first | (cases h; done) | skip
          dsimp only at h
          obtain ⟨l, hl, h⟩ := ofO_ok h
          cases hbs : toBytes l with
          | none =>
            rw [hbs] at h
            dsimp only at h
            obtain ⟨ps, hps, h⟩ := ofO_ok h
            obtain ⟨l', h1, h2, h3⟩ := rowOf_ok hl ha hw
            rw [Nat.mul_one] at h3
            obtain ⟨ns, rfl, h5⟩ := txtOfCells_ok hps h1
            have hx5 : TR ps (⟨⟨ns.map fun n => UInt8.ofNat n.toNat⟩⟩ : ByteArray).data.toList := h5
            obtain ⟨es, hv⟩ := mkTxt_ok (ρ := ρ) h hx5
            refine ⟨es, _, hv, ?_⟩
            rw [run_convert_bytes_string w src dst e (some a') n c' hsrc he hd, run_bytesToString w a' n c' ns h3, push_all]
            congr 3
            apply Array.ext'
            simp [ByteArray.empty, ByteArray.emptyWithCapacity]
            rfl
          | some bs =>
          rw [hbs] at h
          dsimp only at h
          injection h with e3 e4
          subst e3; subst e4
          obtain ⟨l', h1, h2, h3⟩ := rowOf_ok hl ha hw
          rw [Nat.mul_one] at h3
          obtain ⟨ns, rfl, rfl⟩ := toBytes_ok hbs
          have hl' := flats_eq h1 (flats_ints ns .u8)
          subst hl'
          refine ⟨rfl, _, .string _, ?_⟩
          rw [run_convert_bytes_string w src dst e (some a') n c' hsrc he hd, run_bytesToString w a' n c' ns h3, push_all]
          congr 3
          apply Array.ext'
          simp [ByteArray.empty, ByteArray.emptyWithCapacity]
          rfl

/-! ### Parts laid together -/
inductive PRel (ρ : Ren) : List (Nat × Value) → List (Nat × Value) → Prop
  | nil : PRel ρ [] []
  | cons (i : Nat) (v v' : Value) (l l' : List (Nat × Value)) (h : VRel ρ v v') (t : PRel ρ l l') : PRel ρ ((i, v) :: l) ((i, v') :: l')
theorem PRel.of_map {f g : Operand → Value} : ∀ (l : List (Nat × Operand)), (∀ p ∈ l, VRel ρ (f p.2) (g p.2)) → PRel ρ (l.map fun p => (p.1, f p.2)) (l.map fun p => (p.1, g p.2))
  | [], _ => .nil
  | p :: l, h => .cons _ _ _ _ _ (h p (by simp)) (PRel.of_map l fun q hq => h q (by simp [hq]))
theorem fold_splice (off : Nat) : ∀ (vs : List Value) (k : Nat) (cells : Array Value), off + k + vs.length ≤ cells.size → (vs.zipIdx k).foldl (fun (cs : Array Value) (p : Value × Nat) => cs.setIfInBounds (off + p.2) p.1) cells = ⟨splice cells.toList (off + k) vs⟩
  | [], k, cells, _ => by simp [splice]
  | v :: vs, k, cells, h => by
    rw [List.length_cons] at h
    rw [List.zipIdx_cons, List.foldl_cons, fold_splice off vs (k + 1) _ (by simp; omega)]
    congr 1
    apply List.ext_getElem?
    intro j
    rw [splice_get (by simp; omega), splice_get (by simp; omega)]
    simp only [Array.toList_setIfInBounds, List.length_cons, List.getElem?_set, Array.length_toList]
    by_cases h1 : j < off + k
    · rw [if_pos h1, if_pos (by omega), if_neg (by omega)]
    · rw [if_neg h1]
      by_cases h2 : j = off + k
      · subst h2
        rw [if_pos (by omega), if_pos rfl, if_pos (by omega), if_pos (by omega)]
        simp
      · rw [if_neg (by omega)]
        by_cases h3 : j < off + (k + 1) + vs.length
        · rw [if_pos h3, if_pos (by omega), show j - (off + k) = (j - (off + (k + 1))) + 1 by omega, List.getElem?_cons_succ]
        · rw [if_neg h3, if_neg (by omega), if_neg (by omega)]
theorem splice_rel {cs cs' vs vs' : List Value} {off : Nat} (hc : LRel ρ cs cs') (hv : LRel ρ vs vs') : LRel ρ (splice cs off vs) (splice cs' off vs') := by
  unfold splice
  rw [← hv.length]
  exact (hc.take off).append (hv.append (hc.drop _))
theorem fill_ok {place place' : Nat → Option (Nat × Nat)} (hp : ∀ i, place' i = place i) : ∀ {parts parts' : List (Nat × Value)}, PRel ρ parts parts' → ∀ {cs cs' out : List Value}, LRel ρ cs cs' → fillL place cs parts = some out → ∃ out', Instr.fill place' ⟨cs'⟩ parts' = some ⟨out'⟩ ∧ LRel ρ out out'
  | _, _, .nil, cs, cs', out, hc, h => by
    injection h with h
    subst h
    exact ⟨cs', rfl, hc⟩
  | _, _, .cons i v v' l l' hv t, cs, cs', out, hc, h => by
    unfold fillL at h
    unfold Instr.fill
    rw [hp i]
    cases hpi : place i with
    | none => rw [hpi] at h; cases h
    | some q =>
      obtain ⟨off, size⟩ := q
      rw [hpi] at h
      dsimp only at h ⊢
      cases hb : (Nat.beq (lenL (cellsOf v)) size && Nat.ble (off + size) (lenL cs)) with
      | false => rw [hb] at h; cases h
      | true =>
        rw [hb] at h
        simp only [cond_true] at h
        simp only [Bool.and_eq_true, lenL_eq] at hb
        have h1 := Nat.eq_of_beq_eq_true hb.1
        have h2 := Nat.le_of_ble_eq_true hb.2
        subst h1
        rw [splice_eq] at h
        have hcr := cells_rel hv
        have hl1 := hcr.length
        have hl2 := hc.length
        have e0 : v'.cells.toList.length = v'.cells.size := Array.length_toList
        have hsz : ¬ (v'.cells.size ≠ (cellsOf v).length ∨ off + v'.cells.size > cs'.length) := by omega
        have hsz' : (decide (v'.cells.size ≠ (cellsOf v).length) || decide (off + v'.cells.size > (⟨cs'⟩ : Array Value).size)) = false := by
          simp only [Bool.or_eq_false_iff, decide_eq_false_iff_not]
          exact ⟨by omega, by show ¬ (off + v'.cells.size > cs'.length); omega⟩
        rw [if_neg (by simpa using hsz')]
        have hf : v'.cells.zipIdx.foldl (fun (cs : Array Value) (x : Value × Nat) => cs.setIfInBounds (off + x.2) x.1) ⟨cs'⟩ = ⟨splice cs' off v'.cells.toList⟩ := by
          rw [← Array.foldl_toList, Array.toList_zipIdx]
          have := fold_splice off v'.cells.toList 0 ⟨cs'⟩ (by show off + 0 + v'.cells.toList.length ≤ cs'.length; have e : v'.cells.toList.length = v'.cells.size := Array.length_toList; omega)
          simpa using this
        have := fill_ok hp t (splice_rel (off := off) hc hcr) h
        rw [← hf] at this
        exact this
end
end Go.Proofs.YtkmjdfcfcfmkdaaGreatDoor.X

namespace Go.Proofs.YtkmjdfcfcfmkdaaGreatDoor.X
open Go.RowKit

section
variable {P : Program} {b : Base} {ρ : Ren} {s : St} {w : World}

theorem zeroT_some {t : TypeId} {z : Value} (h : zeroT P t = some z) : ∃ i, P.info? t = some i ∧ i.zero = some z ∧ flat z = true := by
  unfold zeroT at h
  cases hi : P.info? t with
  | none => rw [hi] at h; cases h
  | some i =>
    rw [hi] at h
    cases hz : i.zero with
    | none => simp [hz] at h
    | some z' =>
      simp only [Option.bind_some, hz] at h
      cases hf : flat z' with
      | false => rw [hf] at h; cases h
      | true => rw [hf] at h; injection h with h; subst h; exact ⟨i, rfl, hz, hf⟩
theorem bytesT_some {t : TypeId} {n : Nat} (h : bytesT P t = some n) : ∃ i, P.info? t = some i ∧ i.bytes = n := by
  unfold bytesT at h
  cases hi : P.info? t with
  | none => rw [hi] at h; cases h
  | some i => rw [hi] at h; injection h with h; exact ⟨i, rfl, h⟩

theorem doBuild_ok {t : TypeId} {ps ps' : List (Nat × Value)} {v : Value} {s' : St} (h : doBuild P t ps s = .ok v s') (hp : PRel ρ ps ps') : s' = s ∧ QOk P ρ w v (Instr.build t ⟨ps'⟩) := by
  unfold doBuild at h
  obtain ⟨z, hz, h⟩ := ofO_ok h
  obtain ⟨i, hi, hiz, hzf⟩ := zeroT_some hz
  have hzr : LRel ρ (cellsOf z) z.cells.toList := cells_rel (flat_refl ρ hzf)
  cases hu : P.underlying t with
  | none => rw [hu] at h; cases h
  | some d =>
    rw [hu] at h
    cases d <;> first | (cases h; done) | skip
    case struct fs =>
      obtain ⟨pl, hpl, h⟩ := ofO_ok h
      obtain ⟨cs, hcs, h⟩ := ofO_ok h
      injection h with e1 e2
      subst e1; subst e2
      unfold placesT at hpl
      rw [hu] at hpl
      obtain ⟨out, h1, h2⟩ := fill_ok (place' := fun x => pl.toArray[x]?) (fun i => by rw [nth_eq]; simp) hp hzr hcs
      refine ⟨rfl, _, .agg _ _ h2, run_build w t ⟨ps'⟩ ⟨out⟩ ?_⟩
      simp only [Program.built, hi, hu, hiz, hpl]
      exact h1
    case array n e =>
      obtain ⟨m, hm, h⟩ := ofO_ok h
      obtain ⟨cs, hcs, h⟩ := ofO_ok h
      injection h with e1 e2
      subst e1; subst e2
      obtain ⟨ie, hie, rfl⟩ := szT_size hm
      obtain ⟨out, h1, h2⟩ := fill_ok (place' := fun i => some (i * ie.size, ie.size)) (fun i => rfl) hp hzr hcs
      refine ⟨rfl, _, .agg _ _ h2, run_build w t ⟨ps'⟩ ⟨out⟩ ?_⟩
      simp only [Program.built, hi, hu, hiz, hie]
      exact h1

theorem doAssert_ok {x x' v : Value} {xt t : TypeId} {ok : Bool} {s' : St} (h : doAssert P x t ok s = .ok v s') (hx : VRel ρ x x') : s' = s ∧ QOk P ρ w v (Instr.typeAssert x' xt t ok) := by
  have pair : ∀ {u u' : Value} (c : Bool), VRel ρ u u' → VRel ρ (.tuple #[u, .bool c]) (.tuple #[u', .bool c]) := fun c h => .tuple _ _ (.cons _ _ _ _ h (.cons _ _ _ _ (.bool c) .nil))
  unfold doAssert at h
  cases hu : P.underlying t with
  | none => rw [hu] at h; cases h
  | some d =>
    rw [hu] at h
    have zero : ∀ {c : Nat}, (ofO (zeroT P t) c fun z => .ok (.tuple #[z, .bool false]) s) = .ok v s' → s' = s ∧ ∃ z, VRel ρ v (.tuple #[z, .bool false]) ∧ (zeroValue t).run P w = .ok z w := fun h => by
      obtain ⟨z, hz, h⟩ := ofO_ok h
      injection h with e1 e2
      subst e1; subst e2
      obtain ⟨h1, h2⟩ := xz hz w
      exact ⟨rfl, z, pair _ (flat_refl ρ h2), h1⟩
    cases hx <;> first | (cases d <;> cases h; done) | skip
    case nilIface =>
      cases ok with
      | false => cases d <;> cases h
      | true =>
        cases d <;> simp only [cond_true] at h <;> (
          obtain ⟨h1, z, h2, h3⟩ := zero h
          refine ⟨h1, _, h2, ?_⟩
          simp [Instr.typeAssert, xu hu, h3])
    case iface tt u u' hu' =>
      cases d
      case interface want =>
        dsimp only at h
        obtain ⟨i, hi, h⟩ := ofO_ok h
        cases hm : Instr.missingMethod want i.methods with
        | none =>
          rw [hm] at h
          dsimp only at h
          injection h with e1 e2
          subst e1; subst e2
          cases ok
          · exact ⟨rfl, _, .iface _ _ _ hu', by simp [Instr.typeAssert, xu hu, xi hi, hm]⟩
          · exact ⟨rfl, _, pair _ (.iface _ _ _ hu'), by simp [Instr.typeAssert, xu hu, xi hi, hm]⟩
        | some _ =>
          rw [hm] at h
          cases ok with
          | false => cases h
          | true =>
            obtain ⟨h1, z, h2, h3⟩ := zero h
            exact ⟨h1, _, h2, by simp [Instr.typeAssert, xu hu, xi hi, hm, h3]⟩
      all_goals
        dsimp only at h
        cases hb : Nat.beq tt t with
        | true =>
          have := Nat.eq_of_beq_eq_true hb
          subst this
          rw [hb] at h
          simp only [cond_true] at h
          injection h with e1 e2
          subst e1; subst e2
          cases ok
          · exact ⟨rfl, _, hu', by simp [Instr.typeAssert, xu hu]⟩
          · exact ⟨rfl, _, pair _ hu', by simp [Instr.typeAssert, xu hu]⟩
        | false =>
          have hne : tt ≠ t := by
            rintro rfl
            simp at hb
          rw [hb] at h
          cases ok with
          | false => cases h
          | true =>
            obtain ⟨h1, z, h2, h3⟩ := zero h
            exact ⟨h1, _, h2, by simp [Instr.typeAssert, xu hu, hne, h3]⟩

/-! ### What makes -/
noncomputable def newS (cs : List Value) (e : TypeId) (lo : Bool) (s : St) : St := { heap := s.heap.set s.next (.row cs e lo), next := Nat.succ s.next }
/-- A new block comes of it, whenever it is run. -/
def MadeR (P : Program) (ρ : Ren) (w : World) (id : Nat) (cs : List Value) (e : TypeId) (lo : Bool) (v : Value) (x : Sem Value) : Prop :=
  ∃ o' cap v', x.run P w = .ok v' (w.alloc o') ∧ ∀ ρ' : Ren, ρ.Le ρ' → ρ' id = some ⟨w.heap.size, 0, cap⟩ → ORel P ρ' ⟨w.heap.size, 0, cap⟩ (.row cs e lo) o' ∧ VRel ρ' v v'
theorem row_exact {cs cs' : List Value} (h : LRel ρ cs cs') (g cap : Nat) (e : TypeId) : ORel P ρ ⟨g, 0, cap⟩ (.row cs e false) (.cells ⟨cs'⟩ e (0, 0)) :=
  ⟨⟨cs'⟩, (0, 0), rfl, fun j _ hc => by simp at hc, by show 0 + cs.length ≤ cs'.length; rw [h.length]; omega, fun j v hj => by
    obtain ⟨v', h1, h2⟩ := h.get hj
    exact ⟨v', by simpa using h1, h2⟩, fun h => by cases h⟩
theorem ptr_new {ρ' : Ren} {id g cap : Nat} (h : ρ' id = some ⟨g, 0, cap⟩) : VRel ρ' (.pointer (some ⟨id, 0, none⟩)) (.pointer (some ⟨g, 0, none⟩)) :=
  .ptr _ _ ⟨rfl, _, h, rfl⟩
theorem newRow_ok {cs : List Value} {e : TypeId} {lo : Bool} {v : Value} {s' : St} (h : newRow cs e lo s = .ok v s') : v = .pointer (some ⟨s.next, 0, none⟩) ∧ s' = newS cs e lo s := by
  injection h with e1 e2
  exact ⟨e1.symm, e2.symm⟩
theorem sliceOf_ok {n c : Nat} {cs : List Value} {e : TypeId} {lo : Bool} {v : Value} {s' : St} (h : sliceOf n c (newRow cs e lo s) = .ok v s') : v = .slice (some ⟨s.next, 0, none⟩) n c ∧ s' = newS cs e lo s := by
  injection h with e1 e2
  exact ⟨e1.symm, e2.symm⟩
theorem doAlloc_ok {t : TypeId} {v : Value} {s' : St} {c : Nat} (h : (ofO (zeroT P t) c fun z => newRow (cellsOf z) t false s) = .ok v s') :
    ∃ cs e lo, s' = newS cs e lo s ∧ ∀ (ρ : Ren) (w : World), MadeR P ρ w s.next cs e lo v (Instr.alloc t true (.tuple #[])) := by
  obtain ⟨z, hz, h⟩ := ofO_ok h
  obtain ⟨rfl, rfl⟩ := newRow_ok h
  refine ⟨_, _, _, rfl, fun ρ w => ?_⟩
  obtain ⟨h1, h2⟩ := xz hz w
  refine ⟨_, 0, _, ?_, fun ρ' hle hid => ⟨row_exact (cells_rel (flat_refl ρ' h2)) _ _ _, ptr_new hid⟩⟩
  simp [Instr.alloc, h1, newVar, Go.newRow]
theorem doBox_ok {t : TypeId} {x v : Value} {s' : St} (h : newRow (cellsOf x) t false s = .ok v s') :
    ∃ cs e lo, s' = newS cs e lo s ∧ ∀ (ρ : Ren) (w : World) (x' : Value), VRel ρ x x' → MadeR P ρ w s.next cs e lo v (Instr.box t x') := by
  obtain ⟨rfl, rfl⟩ := newRow_ok h
  refine ⟨_, _, _, rfl, fun ρ w x' hx => ⟨_, 0, _, ?_, fun ρ' hle hid => ⟨row_exact (cells_rel (hx.mono hle)) _ _ _, ptr_new hid⟩⟩⟩
  simp [Instr.box, newVar, Go.newRow]

theorem repL_get (z : List Value) : ∀ (n j : Nat), j < n * z.length → (repL n z)[j]? = z[j % z.length]?
  | 0, j, h => by simp at h
  | n + 1, j, h => by
    have e : repL (n + 1) z = z ++ repL n z := by rw [← appL_eq]; rfl
    rw [e]
    by_cases h1 : j < z.length
    · rw [List.getElem?_append_left h1, Nat.mod_eq_of_lt h1]
    · have h' : (n + 1) * z.length = n * z.length + z.length := Nat.succ_mul _ _
      rw [List.getElem?_append_right (by omega), repL_get z n _ (by omega), Nat.mod_eq_sub_mod (a := j) (by omega)]
theorem repL_length (z : List Value) : ∀ (n : Nat), (repL n z).length = n * z.length
  | 0 => by rw [Nat.zero_mul]; rfl
  | n + 1 => by
    have e : repL (n + 1) z = z ++ repL n z := by rw [← appL_eq]; rfl
    rw [e, List.length_append, repL_length z n, Nat.add_mul]; omega
theorem made_rep (z : Array Value) (n : Nat) : ((Array.range (n * z.size)).map fun i => z[i % z.size]!).toList = repL n z.toList := by
  apply List.ext_getElem?
  intro j
  by_cases h : j < n * z.size
  · rw [repL_get _ _ _ (by simpa using h)]
    have hz : 0 < z.size := by
      rcases Nat.eq_zero_or_pos z.size with h0 | h0
      · rw [h0] at h; simp at h
      · exact h0
    have hm := Nat.mod_lt j hz
    simp [h, hm, getElem!_pos]
  · rw [List.getElem?_eq_none (by simpa using h), List.getElem?_eq_none (by rw [repL_length]; simpa using h)]
theorem repL_rel {z z' : List Value} (h : LRel ρ z z') : ∀ n, LRel ρ (repL n z) (repL n z')
  | 0 => .nil
  | n + 1 => by
    have e : ∀ x : List Value, repL (n + 1) x = x ++ repL n x := fun x => by rw [← appL_eq]; rfl
    rw [e, e]
    exact h.append (repL_rel h n)

theorem slice_new {ρ' : Ren} {id g cap : Nat} (h : ρ' id = some ⟨g, 0, cap⟩) {n c : Nat} (hn : n ≤ c) (hc : isInf c = false) : VRel ρ' (.slice (some ⟨id, 0, none⟩) n c) (.slice (some ⟨g, 0, none⟩) n c) :=
  .slice _ _ _ _ _ ⟨rfl, _, h, rfl⟩ ⟨hn, by rw [if_neg (by rw [hc]; simp)]⟩
theorem doBuildSlice_ok {t : TypeId} {n : Nat} {ps : List (Nat × Value)} {v : Value} {s' : St} (h : doBuildSlice P t n ps s = .ok v s') :
    ∃ cs e lo, s' = newS cs e lo s ∧ ∀ (ρ : Ren) (w : World) (ps' : List (Nat × Value)), PRel ρ ps ps' → MadeR P ρ w s.next cs e lo v (Instr.buildSlice t n ⟨ps'⟩) := by
  unfold doBuildSlice at h
  cases hu : P.underlying t with
  | none => rw [hu] at h; cases h
  | some d =>
    rw [hu] at h
    cases d <;> first | (cases h; done) | skip
    rename_i e
    dsimp only at h
    obtain ⟨m, hm, h⟩ := ofO_ok h
    obtain ⟨z, hz, h⟩ := ofO_ok h
    obtain ⟨h1, h⟩ := bif_ok h
    obtain ⟨cs, hcs, h⟩ := ofO_ok h
    obtain ⟨rfl, rfl⟩ := sliceOf_ok h
    simp only [Bool.and_eq_true, Bool.not_eq_true', lenL_eq] at h1
    obtain ⟨hsm, hzl, hinf⟩ := h1
    obtain ⟨ie, hie, hiz, hzf⟩ := zeroT_some hz
    obtain ⟨ie', hie', rfl⟩ := szT_size hm
    rw [hie] at hie'
    injection hie' with hie'
    subst hie'
    refine ⟨_, _, _, rfl, fun ρ w ps' hp => ?_⟩
    have hzl := Nat.eq_of_beq_eq_true hzl
    have hzr : LRel ρ (cellsOf z) z.cells.toList := cells_rel (flat_refl ρ hzf)
    have hzs : z.cells.size = ie.size := by rw [← hzl, hzr.length]; exact Array.length_toList.symm
    have hrep : LRel ρ (repL n (cellsOf z)) ((Array.range (n * ie.size)).map (z.cells[· % z.cells.size]!)).toList := by
      have := made_rep z.cells n
      rw [hzs] at this
      rw [hzs, this]
      exact repL_rel hzr n
    obtain ⟨out, h2, h3⟩ := fill_ok (place' := fun i => some (i * ie.size, ie.size)) (fun i => rfl) hp hrep hcs
    have hsm := Nat.le_of_ble_eq_true hsm
    refine ⟨.cells ⟨out⟩ e, 0, .slice (some ⟨w.heap.size, 0, none⟩) n n, ?_, fun ρ' hle hid => ⟨row_exact (h3.mono hle) _ _ _, slice_new hid (Nat.le_refl _) hinf⟩⟩
    have h2' : Instr.fill (fun i => some (i * ie.size, ie.size)) ((Array.range (n * ie.size)).map (z.cells[· % z.cells.size]!)) ps' = some ⟨out⟩ := h2
    by_cases hpos : n * ie.size = 0
    · have h2'' : Instr.fill (fun i => some (i * ie.size, ie.size)) #[] ps' = some ⟨out⟩ := by
        rw [hpos] at h2'
        rw [show ∀ f : Nat → Value, (Array.range 0).map f = #[] from fun f => by simp] at h2'
        exact h2'
      have hns : ¬ n * ie.size > 2 ^ 24 := by omega
      have hE : ∀ f : Nat → Value, (Array.range 0).map f = #[] := fun f => by simp
      simp only [Instr.buildSlice, Sem.run_bind, xu hu, Result.andThen_ok, xs hm, hpos, if_true, hE]
      rw [if_neg (by decide)]
      simp only [Sem.run_bind, Sem.run_pure, Result.andThen_ok]
      rw [h2'']
      simp [Go.newRow]
    · exact run_buildSlice w t e n ⟨ps'⟩ ⟨out⟩ ie z hu hie hiz (by omega) hpos h2'
theorem doMakeSlice_ok {t : TypeId} {l c v : Value} {s' : St} (h : doMakeSlice P t l c s = .ok v s') :
    ∃ cs e lo, s' = newS cs e lo s ∧ ∀ (ρ : Ren) (w : World) (l' c' : Value), VRel ρ l l' → VRel ρ c c' → MadeR P ρ w s.next cs e lo v (Instr.makeSlice t l' c') := by
  unfold doMakeSlice at h
  cases hu : P.underlying t with
  | none => rw [hu] at h; cases h
  | some d =>
    rw [hu] at h
    cases d <;> first | (cases h; done) | skip
    cases l <;> first | (cases h; done) | skip
    cases c <;> first | (cases h; done) | skip
    rename_i e kl l kc c
    dsimp only at h
    obtain ⟨m, hm, h⟩ := ofO_ok h
    obtain ⟨z, hz, h⟩ := ofO_ok h
    obtain ⟨h1, h⟩ := bif_ok h
    obtain ⟨by_, hby, h⟩ := ofO_ok h
    obtain ⟨h2, h⟩ := bif_ok h
    obtain ⟨rfl, rfl⟩ := sliceOf_ok h
    simp only [Bool.and_eq_true, lenL_eq, decide_eq_true_eq] at h1
    obtain ⟨⟨h0, hlc⟩, hc1, hzl⟩ := h1
    obtain ⟨ie, hie, hiz, hzf⟩ := zeroT_some hz
    obtain ⟨ie', hie', rfl⟩ := szT_size hm
    rw [hie] at hie'
    injection hie' with hie'
    subst hie'
    obtain ⟨ib, hib, rfl⟩ := bytesT_some hby
    rw [hie] at hib
    injection hib with hib
    subst hib
    refine ⟨_, _, _, rfl, fun ρ w l' c' hl hc => ?_⟩
    cases hl
    cases hc
    have hzl := Nat.eq_of_beq_eq_true hzl
    have hc1 := Nat.le_of_ble_eq_true hc1
    have h2 := Nat.le_of_ble_eq_true h2
    have hzr : LRel ρ (cellsOf z) z.cells.toList := cells_rel (flat_refl ρ hzf)
    have hzs : z.cells.size = ie.size := by rw [← hzl, hzr.length]; exact Array.length_toList.symm
    have hbytes : (ie.bytes : Int) * c ≤ 281474976710656 := by
      have h3 : ie.bytes * c.toNat ≤ ie.bytes * 1000000 := Nat.mul_le_mul_left _ hc1
      have h4 : (c : Int) = (c.toNat : Int) := by omega
      rw [h4]
      have h5 : ie.bytes * c.toNat ≤ 2 ^ 40 := Nat.le_trans h3 h2
      have h6 : ((ie.bytes * c.toNat : Nat) : Int) ≤ ((2 ^ 40 : Nat) : Int) := Int.ofNat_le.2 h5
      rw [Int.natCast_mul] at h6
      exact Int.le_trans h6 (by decide)
    have hrun := run_make (P := P) w t e ie z hu hie hiz kl kc l c h0 hlc hbytes (by omega)
    refine ⟨_, 0, _, hrun, fun ρ' hle hid => ⟨?_, slice_new hid (by omega) ?_⟩⟩
    · have := made_rep z.cells c.toNat
      rw [hzs] at this
      have e1 : madeCells z.cells (c.toNat * ie.size) = ⟨repL c.toNat z.cells.toList⟩ := by
        apply Array.ext'
        rw [← this]
        unfold madeCells
        rw [hzs]
      rw [e1]
      exact row_exact (repL_rel (hzr.mono hle) _) _ _ _
    · unfold isInf
      cases hb : Nat.ble (2 ^ 63) c.toNat with
      | false => rfl
      | true => have := Nat.le_of_ble_eq_true hb; omega
end
end Go.Proofs.YtkmjdfcfcfmkdaaGreatDoor.X

namespace Go.Proofs.YtkmjdfcfcfmkdaaGreatDoor.X
open Go.RowKit

section
variable {P : Program} {b : Base} {ρ : Ren} {s : St} {w : World}

/-- What append is given: how many, and their cells. -/
structure Given (P : Program) (w : World) (size n : Nat) (xt : TypeId) (x : Value) (new : List Value) : Prop where
  desc : ∃ d, P.underlying xt = some d ∧ (∀ k, d ≠ .int k)
  len : ∀ w, (Builtin.lenOf x).run P w = .ok n w
  cells : (Builtin.firstCells size n x).run P w = .ok ⟨new⟩ w
  drew : (Builtin.firstCells size n x).run P w.drew = .ok ⟨new⟩ w.drew

theorem run_append_in {t elem xt ty : TypeId} {size n sLen sCap : Nat} {base : Option Addr} {x : Value} {new : List Value} (hu : P.underlying t = some (.slice elem)) (hz : szT P elem = some size) (hg : Given P w size n xt x new)
    (hfit : sLen + n ≤ sCap) :
    (Builtin.append_ #[t, xt] ty #[.slice base sLen sCap, x]).run P w = Result.andThen (((match base with | some a => storeCells (a.add (sLen * size)) new | none => pure ()) : Sem Unit).run P w) fun _ w' => .ok (.slice base (sLen + n) sCap) w' := by
  obtain ⟨d, hd, hnk⟩ := hg.desc
  have hlen := hg.len
  have hc := hg.cells
  have hm : (match d with | .int _ => true | _ => false) = false := by
    cases d <;> first | exact absurd rfl (hnk _) | rfl
  cases base <;> simp [Builtin.append_, xu hu, xu hd, xs hz, hlen, hfit, hc]

theorem growCap_ge (w : World) (need old : Nat) (e : TypeId) : need ≤ grownCap w need old e := by
  unfold grownCap
  exact Nat.le_add_right _ _
theorem run_append_out {t elem xt ty : TypeId} {size n sLen sCap by_ : Nat} {base : Option Addr} {x zz : Value} {old new : List Value} (hu : P.underlying t = some (.slice elem)) (hz : szT P elem = some size) (hzz : zeroT P elem = some zz) (hg : Given P w size n xt x new)
    (hby : bytesT P elem = some by_) (hb0 : 0 < by_) (hb : (sLen + n) * by_ * 2 ≤ 2 ^ 40) (hfit : sCap < sLen + n) (ho : (Builtin.firstCells size sLen (.slice base sLen sCap)).run P w.drew = .ok ⟨old⟩ w.drew) :
    (Builtin.append_ #[t, xt] ty #[.slice base sLen sCap, x]).run P w = .ok (.slice (some ⟨w.heap.size, 0, none⟩) (sLen + n) (grownCap w (sLen + n) sCap elem))
      (w.drew.alloc (.cells (⟨old⟩ ++ ⟨new⟩ ++ Builtin.zeroCells zz.cells (grownCap w (sLen + n) sCap elem - (sLen + n))) elem)) := by
  obtain ⟨i, hi, rfl⟩ := bytesT_some hby
  have hzv : ∀ w, (zeroValue elem).run P w = .ok zz w := fun w => (xz hzz w).1
  have hle : sLen + n ≤ (sLen + n) * i.bytes := Nat.le_mul_of_pos_right _ hb0
  have hn : ¬ (sLen + n ≤ sCap) := by omega
  have h63' : ¬ (9223372036854775807 < ((sLen : Int) + (n : Int))) := by omega
  have h48' : ¬ (281474976710656 < Builtin.nextslicecap (sLen + n) sCap * i.bytes) := by
    have h1 := nextslicecap_le hfit
    have h2 : Builtin.nextslicecap (sLen + n) sCap * i.bytes ≤ 2 * (sLen + n) * i.bytes := Nat.mul_le_mul_right _ h1
    have h3 : 2 * (sLen + n) * i.bytes = (sLen + n) * i.bytes * 2 := by rw [Nat.mul_comm 2, Nat.mul_assoc, Nat.mul_comm 2, ← Nat.mul_assoc]
    omega
  obtain ⟨d, hd, hnk⟩ := hg.desc
  have hlen := hg.len
  have hc := hg.drew
  have hm : (match d with | .int _ => true | _ => false) = false := by
    cases d <;> first | exact absurd rfl (hnk _) | rfl
  simp [Builtin.append_, xu hu, xu hd, xs hz, hlen, hn, hc, xi hi, hzv, h63', h48', Question.forced, ho, Go.newRow, grownCap]
  congr 2
  apply Array.ext'
  simp
end
end Go.Proofs.YtkmjdfcfcfmkdaaGreatDoor.X
