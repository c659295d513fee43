/- A runner for closed calls, part 6: Yk Yl Ym Yn. -/
import Derived.Test.YtdhkebolenbpiaaGreatDoorKne
namespace Go.Proofs.YtdhkebolenbpiaaGreatDoor.X
open Go.RowKit

section
variable {P : Program} {b : Base} {ρ : Ren} {s : St} {w : World}

/-- It may turn memory. -/
def EOk (P : Program) (b : Base) (ρ : Ren) (s s' : St) (w : World) (v : Value) (x : Sem Value) : Prop := ∃ ρ' w' v', Ok P b ρ s ρ' s' w' ∧ VRel ρ' v v' ∧ x.run P w = .ok v' w'
theorem EOk.of_q {v : Value} {x : Sem Value} (hw : WRel P b ρ s w) (h : QOk P ρ w v x) : EOk P b ρ s s w v x := by
  obtain ⟨v', h1, h2⟩ := h
  exact ⟨ρ, w, v', .refl hw, h1, h2⟩

theorem zeroCells_size {z : Value} {n size : Nat} (h : z.cells.size = size) : (Builtin.zeroCells z.cells n).size = n * size := by
  simp [Builtin.zeroCells, h]

/-- An append that puts cells behind a slice: what append_ does with them is given. -/
theorem aAppend_ok {elem : TypeId} {size by_ n sLen sCap : Nat} {base : Option Addr} {sv' v zz : Value} {new new' : List Value} {s' : St} {X : Value → Sem Value} (h : aAppend b.G elem size by_ base sLen sCap new n s = .ok v s')
    (hb : VRel ρ (.slice base sLen sCap) sv') (hn : LRel ρ new new') (hw : WRel P b ρ s w) (hz : szT P elem = some size) (hpos : 0 < size) (hzz : zz.cells.size = size)
    (hin : ∀ {base' : Option Addr} {cap' : Nat}, isInf sCap = true ∨ sLen + n ≤ sCap → sv' = .slice base' sLen cap' → sLen + n ≤ cap' → (X sv').run P w = Result.andThen (((match base' with | some a => storeCells (a.add (sLen * size)) new' | none => pure ()) : Sem Unit).run P w) fun _ w' => .ok (.slice base' (sLen + n) cap') w')
    (hout : ∀ {base' : Option Addr} {cap' : Nat} {old' : List Value}, sv' = .slice base' sLen cap' → cap' < sLen + n → (sLen + n) * by_ * 2 ≤ 2 ^ 40 → (Builtin.firstCells size sLen (.slice base' sLen cap')).run P w.drew = .ok ⟨old'⟩ w.drew →
      (X sv').run P w = .ok (.slice (some ⟨w.heap.size, 0, none⟩) (sLen + n) (grownCap w (sLen + n) cap' elem)) (w.drew.alloc (.cells (⟨old'⟩ ++ ⟨new'⟩ ++ Builtin.zeroCells zz.cells (grownCap w (sLen + n) cap' elem - (sLen + n))) elem))) :
    EOk P b ρ s s' w v (X sv') := by
  unfold aAppend at h
  cases hc0 : (Nat.ble ((sLen + n) * by_ * 2) (2 ^ 40) && (Nat.beq (lenL new) (n * size) && cellsOk new)) with
  | false => rw [hc0] at h; cases h
  | true =>
    rw [hc0] at h
    simp only [Bool.not_true, cond_false] at h
    simp only [Bool.and_eq_true, lenL_eq] at hc0
    obtain ⟨hby, hlen, hcok⟩ := hc0
    have hby := Nat.le_of_ble_eq_true hby
    have hlen := Nat.eq_of_beq_eq_true hlen
    -- a new row
    have grow : ∀ {base' : Option Addr} {cap' : Nat} {old old' : List Value}, sv' = .slice base' sLen cap' → cap' < sLen + n → (Builtin.firstCells size sLen (.slice base' sLen cap')).run P w.drew = .ok ⟨old'⟩ w.drew → LRel ρ old old' → old.length = sLen * size →
        ∀ {s0 : St}, WRel P b ρ s0 w → s0.next = s.next → (∀ i, i < s.next → ρ i = none → s0.heap.get i = s.heap.get i) → v = .slice (some ⟨s.next, 0, none⟩) (sLen + n) INF → s' = newS (old ++ new) elem true s0 → EOk P b ρ s s' w v (X sv') := by
      intro base' cap' old old' hsv hlt hf ho hol s0 hw0 hnx hpd hv hs'
      have hr := hout hsv hlt hby hf
      have hlr : LRel ρ (old ++ new) (old' ++ new') := ho.append hn
      have hll : (old ++ new).length = (sLen + n) * size := by rw [List.length_append, hol, hlen, Nat.add_mul]
      obtain ⟨g1, g2⟩ := grown_row hw0.drew hz hlr hll (Builtin.zeroCells zz.cells (grownCap w (sLen + n) cap' elem - (sLen + n))) (zeroCells_size hzz) (growCap_ge w (sLen + n) cap' elem)
      have e1 : (⟨old' ++ new'⟩ : Array Value) = ⟨old'⟩ ++ ⟨new'⟩ := by apply Array.ext'; simp
      rw [e1] at g1
      rw [hnx] at g1 g2
      subst hv; subst hs'
      refine ⟨_, _, _, ⟨fun i hi => g1.ext i (by rw [hnx]; exact hi), by have := g1.next; rw [hnx] at this; exact this, fun i hi hn => (g1.pend i (by rw [hnx]; exact hi) hn).trans (hpd i hi hn), g1.rel⟩, g2, hr⟩
    have fr_same : ∀ {x : Value} {l : List Value}, (Builtin.firstCells size sLen x).run P w.drew = .ok ⟨l⟩ w.drew → (Builtin.firstCells size sLen x).run P w.drew = .ok ⟨l⟩ w.drew := fun h => h
    cases hb with
    | sliceN _ _ =>
      dsimp only at h
      obtain ⟨h1, h⟩ := bif_ok h
      simp only [Bool.and_eq_true] at h1
      have e1 := Nat.eq_of_beq_eq_true h1.1
      have e2 := Nat.eq_of_beq_eq_true h1.2
      subst e1; subst e2
      cases hn0 : Nat.beq n 0 with
      | true =>
        rw [hn0] at h
        have := Nat.eq_of_beq_eq_true hn0
        subst this
        injection h with e1 e2
        subst e1; subst e2
        have hr := hin (.inr (Nat.le_refl _)) rfl (Nat.le_refl _)
        exact ⟨ρ, w, _, .refl hw, .sliceN _ _, hr⟩
      | false =>
        rw [hn0] at h
        simp only [cond_false] at h
        have hn0 : n ≠ 0 := by rintro rfl; cases hn0
        obtain ⟨rfl, rfl⟩ := sliceOf_ok h
        exact grow (old := []) (old' := []) rfl (by omega) (by simp [Builtin.firstCells]) .nil (by simp) hw rfl (fun _ _ _ => rfl) (by rw [Nat.zero_add]) rfl
    | sliceE a a' c c' hsp =>
      exfalso
      dsimp only at h
      cases hr : getRow s a with
      | none => rw [hr] at h; cases h
      | some x => obtain ⟨cs, e, l⟩ := x; have := (getRow_some hr).2; rw [this] at hsp; cases hsp
    | slice a a' _ _ cap' ha hc =>
      dsimp only at h
      cases hr : getRow s a with
      | none => rw [hr] at h; cases h
      | some x =>
        obtain ⟨cs, e, lo⟩ := x
        rw [hr] at h
        dsimp only at h
        cases hg : (Nat.ble b.G a.block && (Nat.beq e elem && Nat.ble (a.off + sLen * size) (lenL cs))) with
        | false => rw [hg] at h; cases h
        | true =>
          rw [hg] at h
          simp only [Bool.not_true, cond_false] at h
          simp only [Bool.and_eq_true, lenL_eq] at hg
          obtain ⟨hG, he, hat⟩ := hg
          have hG := Nat.le_of_ble_eq_true hG
          have he := Nat.eq_of_beq_eq_true he
          have hat := Nat.le_of_ble_eq_true hat
          subst he
          -- in place, where it is known to fit
          have inplace : sLen + n ≤ cap' → isInf sCap = true ∨ sLen + n ≤ sCap → a.off + sLen * size + n * size ≤ cs.length → VRel ρ (.slice (some a) (sLen + n) sCap) (.slice (some a') (sLen + n) cap') →
              v = .slice (some a) (sLen + n) sCap → s' = setRow s a.block (appL (takeL (a.off + sLen * size) cs) (appL new (dropL (a.off + sLen * size + n * size) cs))) e lo → EOk P b ρ s s' w v (X (.slice (some a') sLen cap')) := by
            intro hfit hi hst hv e1 e2
            subst e1; subst e2
            rw [← hlen, splice_eq]
            obtain ⟨w', g1, g2⟩ := hw.splice hr ha hG hn hcok (a.off + sLen * size) (by omega) (sLen * size) rfl
            have hrun := hin hi rfl hfit
            dsimp only at hrun
            rw [g2] at hrun
            exact ⟨ρ, w', _, g1, hv, hrun⟩
          -- the old cells
          have hsub : ((cs.drop a.off).take (sLen * size)).length = sLen * size := by rw [List.length_take, List.length_drop]; omega
          obtain ⟨k, c, fz, hk, ha', hgk, hcc, hrr⟩ := hw.row hr ha
          obtain ⟨o1, o2⟩ := row_sub hrr (sLen * size) a.off hsub
          have hold : (Builtin.firstCells size sLen (.slice (some a') sLen cap')).run P w.drew = .ok ⟨(c.toList.drop (k.sh + a.off)).take (sLen * size)⟩ w.drew := by
            subst ha'
            exact run_cells (w := w.drew) hcc o2
          cases hi : isInf sCap with
          | true =>
            rw [hi] at h
            simp only [cond_true] at h
            cases hg2 : (lo && (Nat.beq a.off ((INF - sCap) * size) && Nat.ble sCap INF)) with
            | false => rw [hg2] at h; cases h
            | true =>
              rw [hg2] at h
              simp only [Bool.not_true, cond_false] at h
              simp only [Bool.and_eq_true] at hg2
              obtain ⟨hlo, hoff, hle⟩ := hg2
              have hoff := Nat.eq_of_beq_eq_true hoff
              have hle := Nat.le_of_ble_eq_true hle
              have hc2 := hc.2
              rw [if_pos hi] at hc2
              obtain ⟨_, k', hk', hcap⟩ := hc2
              rw [hk] at hk'
              injection hk' with hk'
              subst hk'
              have hroom := hrr.2.2.2 hlo size hz
              cases hst : Nat.ble (a.off + sLen * size + n * size) (lenL cs) with
              | true =>
                rw [hst] at h
                simp only [cond_true] at h
                injection h with e1 e2
                rw [lenL_eq] at hst
                have hst := Nat.le_of_ble_eq_true hst
                have hfit : sLen + n ≤ cap' := by
                  have h5 : ((INF - sCap) + (sLen + n)) * size ≤ k.cap * size := by
                    have : (INF - sCap) * size + (sLen * size + n * size) = ((INF - sCap) + (sLen + n)) * size := by rw [Nat.add_mul, Nat.add_mul]
                    rw [← this, ← hoff]
                    omega
                  have h6 := Nat.le_of_mul_le_mul_right h5 hpos
                  omega
                exact inplace hfit (.inl hi) hst (.slice _ _ _ _ _ ha ⟨hfit, by rw [if_pos hi]; exact ⟨hle, k, hk, hcap⟩⟩) e1.symm e2.symm
              | false =>
                rw [hst] at h
                simp only [cond_false] at h
                obtain ⟨hv, hs'⟩ := sliceOf_ok h
                rw [appL_eq, takeL_eq, dropL_eq] at hs'
                by_cases hfit : sLen + n ≤ cap'
                · -- in place: the row goes on under a new id
                  subst hv; subst hs'; subst ha'
                  have hrun := hin (.inl hi) rfl hfit
                  dsimp only at hrun
                  rw [addr_add] at hrun
                  have hroom2 : k.sh + a.off + cap' * size ≤ c.size := by
                    have h7 := hroom.2
                    rw [hcap, Nat.add_mul] at h7
                    omega
                  have hroom3 : (sLen + n) * size ≤ cap' * size := Nat.mul_le_mul_right _ hfit
                  rw [Nat.add_mul] at hroom3
                  have hnl := hn.length
                  have hst2 := run_storeRow (P := P) k.blk (k.sh + a.off + sLen * size) e fz new' 0 c w hcc hrr.1 (by omega) (cellsOk_rel hn hcok)
                  rw [Nat.add_zero] at hst2
                  rw [hst2] at hrun
                  have hcl : c.toList.length = c.size := Array.length_toList
                  have hsplen : k.sh + a.off + sLen * size + new'.length ≤ c.toList.length := by omega
                  have hmv := hw.move (i := a.block) hgk (by simp) hk hG (k.sh + a.off) cap' (o1 := .row ((cs.drop a.off).take (sLen * size) ++ new) e true) (o' := .cells ⟨Go.Proofs.YtdhkebolenbpiaaGreatDoor.X.splice c.toList (k.sh + a.off + sLen * size) new'⟩ e fz) fun ρ' hle' hid => by
                    refine ⟨_, fz, rfl, fun j hj => hrr.1 j (by simpa [splice_length hsplen] using hj), ?_, fun j v hj => ?_, fun _ m hm => ?_⟩
                    · have : (⟨Go.Proofs.YtdhkebolenbpiaaGreatDoor.X.splice c.toList (k.sh + a.off + sLen * size) new'⟩ : Array Value).size = c.toList.length := splice_length hsplen
                      rw [this, List.length_append, hsub]
                      dsimp only
                      omega
                    · have hg3 : (⟨Go.Proofs.YtdhkebolenbpiaaGreatDoor.X.splice c.toList (k.sh + a.off + sLen * size) new'⟩ : Array Value)[k.sh + a.off + j]? = (Go.Proofs.YtdhkebolenbpiaaGreatDoor.X.splice c.toList (k.sh + a.off + sLen * size) new')[k.sh + a.off + j]? := by simp
                      dsimp only
                      rw [hg3, splice_get hsplen]
                      by_cases hj1 : j < sLen * size
                      · rw [List.getElem?_append_left (by rw [hsub]; exact hj1), List.getElem?_take, if_pos hj1, List.getElem?_drop] at hj
                        rw [if_pos (by omega)]
                        obtain ⟨v', g3, g4⟩ := hrr.2.2.1 _ _ hj
                        exact ⟨v', by simpa [Nat.add_assoc] using g3, g4.mono hle'⟩
                      · rw [List.getElem?_append_right (by rw [hsub]; omega), hsub] at hj
                        obtain ⟨v', g3, g4⟩ := hn.get hj
                        have hjl := (List.getElem?_eq_some_iff.1 g3).1
                        rw [if_neg (by omega), if_pos (by omega)]
                        exact ⟨v', by rw [show k.sh + a.off + j - (k.sh + a.off + sLen * size) = j - sLen * size by omega]; exact g3, g4.mono hle'⟩
                    · rw [hz] at hm
                      injection hm with hm
                      subst hm
                      have : (⟨Go.Proofs.YtdhkebolenbpiaaGreatDoor.X.splice c.toList (k.sh + a.off + sLen * size) new'⟩ : Array Value).size = c.toList.length := splice_length hsplen
                      rw [this, List.length_append, hsub]
                      dsimp only
                      refine ⟨by omega, hroom2⟩
                  refine ⟨_, _, _, hmv, ?_, hrun⟩
                  refine .slice _ _ _ _ _ ⟨rfl, _, upd_self _ _ _, by simp⟩ ⟨hfit, ?_⟩
                  rw [if_pos isInf_INF]
                  exact ⟨Nat.le_refl _, _, upd_self _ _ _, by simp⟩
                · have hai : a.block < s.next := hw.dom _ _ hk
                  exact grow rfl (by omega) hold o1 hsub (hw.kill hai) rfl (fun i _ hn => by
                    dsimp only
                    rw [Tr.get_set, if_neg]
                    rintro rfl
                    rw [hk] at hn; cases hn) hv hs'
          | false =>
            rw [hi] at h
            simp only [cond_false] at h
            have hc2 := hc.2
            rw [if_neg (by rw [hi]; simp)] at hc2
            subst hc2
            cases hfb : Nat.ble (sLen + n) cap' with
            | true =>
              rw [hfb] at h
              simp only [cond_true] at h
              obtain ⟨hst, h⟩ := bif_ok h
              injection h with e1 e2
              rw [lenL_eq] at hst
              have hfit := Nat.le_of_ble_eq_true hfb
              exact inplace hfit (.inr hfit) (Nat.le_of_ble_eq_true hst) (.slice _ _ _ _ _ ha ⟨hfit, by rw [if_neg (by rw [hi]; simp)]⟩) e1.symm e2.symm
            | false =>
              rw [hfb] at h
              simp only [cond_false] at h
              obtain ⟨hv, hs'⟩ := sliceOf_ok h
              rw [appL_eq, takeL_eq, dropL_eq] at hs'
              have hnf : ¬ sLen + n ≤ cap' := fun h => by rw [Nat.ble_eq_true_of_le h] at hfb; cases hfb
              exact grow rfl (by omega) hold o1 hsub hw rfl (fun _ _ _ => rfl) hv hs'
end
end Go.Proofs.YtdhkebolenbpiaaGreatDoor.X

namespace Go.Proofs.YtdhkebolenbpiaaGreatDoor.X
open Go.RowKit

section
variable {P : Program} {b : Base} {ρ : Ren} {s : St} {w : World}

theorem lenV_ok {x x' : Value} {n : Nat} (h : lenV x = some n) (hx : VRel ρ x x') (w : World) : (Builtin.lenOf x').run P w = .ok n w := by
  cases hx <;> first | (cases h; done) | skip
  case sstr i m l hl hv =>
    obtain ⟨bs, e, hs⟩ := lenC_ok l.sh h
    rw [e] at hv
    subst hv
    simp [Builtin.lenOf, hs]
  all_goals
    injection h with h
    subst h
    simp [Builtin.lenOf]

theorem doAppend_ok {ts : Array TypeId} {ty : TypeId} {args args' : List Value} {v : Value} {s' : St} (h : doAppend P b.G ts.toList args s = .ok v s') (ha : LRel ρ args args') (hw : WRel P b ρ s w) :
    EOk P b ρ s s' w v (Builtin.append_ ts ty ⟨args'⟩) := by
  obtain ⟨ts⟩ := ts
  unfold doAppend at h
  rcases ts with _ | ⟨t, _ | ⟨xt, _ | ⟨_, _⟩⟩⟩ <;> first | (cases h; done) | skip
  cases ha with
  | nil => cases h
  | cons x0 x0' l l' hx0 hl =>
    cases hl with
    | nil => cases x0 <;> cases h
    | cons x x' l2 l2' hx hl2 =>
      cases hl2 with
      | cons _ _ _ _ _ _ => cases x0 <;> cases h
      | nil =>
        have hsl : ∃ base sLen sCap, x0 = .slice base sLen sCap := by cases x0 <;> first | (cases h; done) | exact ⟨_, _, _, rfl⟩
        obtain ⟨base, sLen, sCap, rfl⟩ := hsl
        dsimp only at h
        cases hu : P.underlying t with
        | none => rw [hu] at h; cases h
        | some d =>
          rw [hu] at h
          cases d <;> first | (cases h; done) | skip
          rename_i elem
          cases hxu : P.underlying xt with
          | none => rw [hxu] at h; cases h
          | some xd =>
            rw [hxu] at h
            dsimp only at h
            obtain ⟨size, hz, h⟩ := ofO_ok h
            obtain ⟨by_, hby, h⟩ := ofO_ok h
            cases hpos : (Nat.blt 0 size && Nat.blt 0 by_) with
            | false => rw [hpos] at h; cases h
            | true =>
              rw [hpos] at h
              simp only [Bool.not_true, cond_false] at h
              simp only [Bool.and_eq_true] at hpos
              have hp1 : 0 < size := Nat.le_of_ble_eq_true hpos.1
              have hp2 : 0 < by_ := Nat.le_of_ble_eq_true hpos.2
              obtain ⟨zz, hzz, h⟩ := ofO_ok h
              cases hzl : Nat.beq (lenL (cellsOf zz)) size with
              | false => rw [hzl] at h; cases h
              | true =>
                rw [hzl] at h
                simp only [Bool.not_true, cond_false] at h
                have hzl := Nat.eq_of_beq_eq_true hzl
                rw [lenL_eq] at hzl
                obtain ⟨iz, hiz, hizz, hzf⟩ := zeroT_some hzz
                have hzr : LRel ρ (cellsOf zz) zz.cells.toList := cells_rel (flat_refl ρ hzf)
                have hzs : zz.cells.size = size := by rw [← hzl, hzr.length]; exact Array.length_toList.symm
                by_cases hint : ∃ k, xd = .int k
                · obtain ⟨k, rfl⟩ := hint
                  have hxi : ∃ kn m, x = .int kn m := by cases x <;> first | (cases h; done) | exact ⟨_, _, rfl⟩
                  obtain ⟨kn, m, rfl⟩ := hxi
                  cases hx
                  dsimp only at h
                  obtain ⟨h1, h⟩ := bif_ok h
                  simp only [Bool.and_eq_true, decide_eq_true_eq, Bool.not_eq_true'] at h1
                  obtain ⟨⟨g1, g2⟩, g3, g4, g5⟩ := h1
                  have g2 := Nat.le_of_ble_eq_true g2
                  have g3 := Nat.le_of_ble_eq_true g3
                  have g4 : sCap < sLen + m.toNat := Nat.le_of_ble_eq_true g4
                  have hm : (m : Int) = (m.toNat : Int) := by omega
                  have hnew : LRel ρ (repL m.toNat (cellsOf zz)) (Builtin.zeroCells zz.cells m.toNat).toList := by
                    have := made_rep zz.cells m.toNat
                    unfold Builtin.zeroCells
                    rw [this]
                    exact repL_rel hzr _
                  obtain ⟨ib, hib, rfl⟩ := bytesT_some hby
                  rw [hiz] at hib
                  injection hib with hib
                  subst hib
                  obtain ⟨is, his, hsz⟩ := szT_size hz
                  rw [hiz] at his
                  injection his with his
                  subst his
                  refine aAppend_ok (zz := zz) (X := fun sv => Builtin.append_ #[t, xt] ty #[sv, .int kn m]) h hx0 hnew hw hz hp1 hzs ?_ ?_
                  · intro base' cap' hor hsv hfit
                    exfalso
                    rcases hor with hi | hle
                    · rw [hi] at g5; cases g5
                    · omega
                  · intro base' cap' old' hsv hlt hb hold
                    have hle : sLen + m.toNat ≤ (sLen + m.toNat) * iz.bytes := Nat.le_mul_of_pos_right _ hp2
                    subst hsv
                    have hfit : Builtin.nextslicecap (sLen + m.toNat) cap' * iz.bytes ≤ 281474976710656 := by
                      have h1 := nextslicecap_le hlt
                      have h2 : Builtin.nextslicecap (sLen + m.toNat) cap' * iz.bytes ≤ 2 * (sLen + m.toNat) * iz.bytes := Nat.mul_le_mul_right _ h1
                      have h3 : 2 * (sLen + m.toNat) * iz.bytes = (sLen + m.toNat) * iz.bytes * 2 := by rw [Nat.mul_comm 2, Nat.mul_assoc, Nat.mul_comm 2, ← Nat.mul_assoc]
                      omega
                    have hrun := Lib.run_append_grow_zeros (P := P) w t xt ty elem iz zz kn k hu hxu hiz hizz base' sLen cap' old' (by rw [hsz]; exact hold) m.toNat (by omega) (by rw [hsz]; exact hp1) hlt (by omega) (by omega) hfit
                    rw [← hm] at hrun
                    exact hrun
                · have hnk : ∀ k, xd ≠ .int k := fun k e => hint ⟨k, e⟩
                  have h' : (ofO (lenV x) 61 fun n => ofO (firstC size n x s) 62 fun new => aAppend b.G elem size by_ base sLen sCap new n s) = .ok v s' := by
                    cases xd <;> first | exact absurd rfl (hnk _) | exact h
                  obtain ⟨n, hn, h⟩ := ofO_ok h'
                  obtain ⟨new, hnew, h⟩ := ofO_ok h
                  obtain ⟨new', f1, f2, f3⟩ := firstC_ok hnew hx hw (.inr trivial)
                  have hgv : Given P w size n xt x' new' := ⟨⟨xd, hxu, hnk⟩, fun w => lenV_ok hn hx w, f2, f3⟩
                  refine aAppend_ok (zz := zz) (X := fun sv => Builtin.append_ #[t, xt] ty #[sv, x']) h hx0 f1 hw hz hp1 hzs ?_ ?_
                  · intro base' cap' _ hsv hfit
                    subst hsv
                    exact run_append_in hu hz hgv hfit
                  · intro base' cap' old' hsv hlt hb hold
                    subst hsv
                    exact run_append_out hu hz hzz hgv hby hp2 hb hlt hold

theorem doCopy_ok {ts : Array TypeId} {ty : TypeId} {args args' : List Value} {v : Value} {s' : St} (h : doCopy P b.G ts.toList args s = .ok v s') (ha : LRel ρ args args') (hw : WRel P b ρ s w) :
    EOk P b ρ s s' w v (Builtin.copy_ ts ty ⟨args'⟩) := by
  obtain ⟨ts⟩ := ts
  unfold doCopy at h
  rcases ts with _ | ⟨t, r⟩ <;> first | (cases h; done) | skip
  cases ha with
  | nil => cases h
  | cons x0 x0' l l' hx0 hl =>
    cases hl with
    | nil => cases x0 <;> cases h
    | cons x x' l2 l2' hx hl2 =>
      cases hl2 with
      | cons _ _ _ _ _ _ => cases x0 <;> cases h
      | nil =>
        have hsl : ∃ base sLen sCap, x0 = .slice base sLen sCap := by cases x0 <;> first | (cases h; done) | exact ⟨_, _, _, rfl⟩
        obtain ⟨base, sLen, sCap, rfl⟩ := hsl
        dsimp only at h
        cases hu : P.underlying t with
        | none => rw [hu] at h; cases h
        | some d =>
          rw [hu] at h
          cases d <;> first | (cases h; done) | skip
          rename_i elem
          dsimp only at h
          obtain ⟨size, hz, h⟩ := ofO_ok h
          obtain ⟨m, hm, h⟩ := ofO_ok h
          obtain ⟨new, hnew, h⟩ := ofO_ok h
          obtain ⟨new', f1, f2, _⟩ := firstC_ok hnew hx hw (.inr trivial)
          have hlen := lenV_ok (P := P) hm hx w
          cases hx0 with
          | sliceN _ _ =>
            injection h with e1 e2
            subst e1; subst e2
            exact ⟨ρ, w, _, .refl hw, .int _ _, by simp [Builtin.copy_, xu hu, hlen, xs hz, f2, goInt]⟩
          | sliceE a a' c c' hsp =>
            exfalso
            dsimp only at h
            cases hr : getRow s a with
            | none => rw [hr] at h; cases h
            | some x => obtain ⟨cs, e, l⟩ := x; have := (getRow_some hr).2; rw [this] at hsp; cases hsp
          | slice a a' _ _ cap' ha hc =>
            dsimp only at h
            cases hr : getRow s a with
            | none => rw [hr] at h; cases h
            | some x =>
              obtain ⟨cs, e, lo⟩ := x
              rw [hr] at h
              dsimp only at h
              obtain ⟨h1, h⟩ := bif_ok h
              injection h with e1 e2
              subst e1; subst e2
              simp only [Bool.and_eq_true, lenL_eq] at h1
              obtain ⟨⟨⟨g1, g2⟩, g4⟩, g3⟩ := h1
              have g3 := Nat.le_of_ble_eq_true g3
              have g4 := Nat.eq_of_beq_eq_true g4
              rw [← g4] at g3 ⊢
              rw [splice_eq]
              obtain ⟨w', k1, k2⟩ := hw.splice hr ha (Nat.le_of_ble_eq_true g1) f1 g2 a.off g3 0 rfl
              have k2' : (storeCells a' new').run P w = .ok () w' := by simpa [Addr.add] using k2
              exact ⟨ρ, w', _, k1, .int _ _, by simp [Builtin.copy_, xu hu, hlen, xs hz, f2, goInt, k2']⟩
theorem doClear_ok {ts : Array TypeId} {ty : TypeId} {args args' : List Value} {v : Value} {s' : St} (h : doClear P b.G ts.toList args s = .ok v s') (ha : LRel ρ args args') (hw : WRel P b ρ s w) :
    EOk P b ρ s s' w v (Builtin.clear_ ts ty ⟨args'⟩) := by
  have vt : VRel ρ (.tuple #[]) (.tuple #[]) := .tuple _ _ .nil
  obtain ⟨ts⟩ := ts
  unfold doClear at h
  rcases ts with _ | ⟨t, r⟩ <;> first | (cases h; done) | skip
  cases ha with
  | nil => cases h
  | cons x0 x0' l l' hx0 hl =>
    cases hl with
    | cons _ _ _ _ _ _ => cases x0 <;> cases h
    | nil =>
      have hsl : ∃ base sLen sCap, x0 = .slice base sLen sCap := by cases x0 <;> first | (cases h; done) | exact ⟨_, _, _, rfl⟩
      obtain ⟨base, sLen, sCap, rfl⟩ := hsl
      dsimp only at h
      cases hu : P.underlying t with
      | none => rw [hu] at h; cases h
      | some d =>
        rw [hu] at h
        cases d <;> first | (cases h; done) | skip
        rename_i elem
        cases hx0 with
        | sliceN _ _ =>
          dsimp only at h
          obtain ⟨h1, h⟩ := bif_ok h
          have := Nat.eq_of_beq_eq_true h1
          subst this
          injection h with e1 e2
          subst e1; subst e2
          exact ⟨ρ, w, _, .refl hw, vt, by simp [Builtin.clear_, xu hu]⟩
        | sliceE a a' c c' hsp =>
          injection h with e1 e2
          subst e1; subst e2
          exact ⟨ρ, w, _, .refl hw, vt, by simp [Builtin.clear_, xu hu]⟩
        | slice a a' _ _ cap' ha hc =>
          dsimp only at h
          cases hn0 : Nat.beq sLen 0 with
          | true =>
            rw [hn0] at h
            have := Nat.eq_of_beq_eq_true hn0
            subst this
            injection h with e1 e2
            subst e1; subst e2
            exact ⟨ρ, w, _, .refl hw, vt, by simp [Builtin.clear_, xu hu]⟩
          | false =>
            rw [hn0] at h
            simp only [cond_false] at h
            have hne : sLen ≠ 0 := by rintro rfl; cases hn0
            obtain ⟨size, hz, h⟩ := ofO_ok h
            obtain ⟨z, hzz, h⟩ := ofO_ok h
            cases hr : getRow s a with
            | none => rw [hr] at h; cases h
            | some x =>
              obtain ⟨cs, e, lo⟩ := x
              rw [hr] at h
              dsimp only at h
              obtain ⟨h1, h⟩ := bif_ok h
              injection h with e1 e2
              subst e1; subst e2
              simp only [Bool.and_eq_true, lenL_eq] at h1
              obtain ⟨⟨g1, ⟨g2, g4⟩, g5⟩, g3⟩ := h1
              have g3 := Nat.le_of_ble_eq_true g3
              have g4 := Nat.eq_of_beq_eq_true g4
              obtain ⟨hzv, hzf⟩ := xz hzz w
              have hzr : LRel ρ (cellsOf z) z.cells.toList := cells_rel (flat_refl ρ hzf)
              have hrl : (repL sLen (cellsOf z)).length = sLen * size := by rw [repL_length, g4]
              have hnew : LRel ρ (repL sLen (cellsOf z)) (Builtin.zeroCells z.cells sLen).toList := by
                have := made_rep z.cells sLen
                unfold Builtin.zeroCells
                rw [this]
                exact repL_rel hzr _
              rw [← hrl] at g3 ⊢
              rw [splice_eq]
              obtain ⟨w', k1, k2⟩ := hw.splice hr ha (Nat.le_of_ble_eq_true g1) hnew g5 a.off g3 0 rfl
              have k2' : (storeCells a' (Builtin.zeroCells z.cells sLen).toList).run P w = .ok () w' := by simpa [Addr.add] using k2
              refine ⟨ρ, w', _, k1, vt, ?_⟩
              obtain ⟨m, rfl⟩ : ∃ m, sLen = m + 1 := ⟨sLen - 1, by omega⟩
              simp [Builtin.clear_, xu hu, hzv, k2']
end
end Go.Proofs.YtdhkebolenbpiaaGreatDoor.X

namespace Go.Proofs.YtdhkebolenbpiaaGreatDoor.X
open Go.RowKit

section
variable {P : Program} {b : Base} {ρ : Ren} {s : St} {w : World}

theorem flatRun_bind {α β : Type} {f : α → Sem β} {r : β} : ∀ (x : Sem α), flatRun P (x.bind f) = some r → ∃ a, flatRun P x = some a ∧ flatRun P (f a) = some r
  | .pure a, h => ⟨a, rfl, h⟩
  | .program k, h => flatRun_bind (k P) h
  | .mark _ k, h => flatRun_bind k h
  | .load .., h | .store .., h | .new .., h | .shape .., h | .freeze .., h | .frozen .., h | .getObj .., h | .setObj .., h | .choose .., h | .sys .., h | .halt _, h => by simp [flatRun, Sem.bind] at h

/-- The same keys. -/
inductive Keys : List MapEntry → List MapEntry → Prop
  | nil : Keys [] []
  | cons (e e' : MapEntry) (l l' : List MapEntry) (h : e'.key = e.key) (t : Keys l l') : Keys (e :: l) (e' :: l')
def sameAt (es' : List MapEntry) (i : Nat) (r : Option (Nat × Value)) (r' : Option (Nat × Value)) : Prop :=
  match r with
  | none => r' = none
  | some (j, _) => i ≤ j ∧ ∃ e, es'[j - i]? = some e ∧ r' = some (j, e.val)
theorem findNow_keys (kind : TypeDesc) (k : Value) : ∀ {es es' : List MapEntry}, Keys es es' → ∀ (i : Nat), (Instr.findNow kind k es i = none ∧ Instr.findNow kind k es' i = none) ∨ ∃ r r', Instr.findNow kind k es i = some r ∧ Instr.findNow kind k es' i = some r' ∧ sameAt es' i r r'
  | _, _, .nil, i => .inr ⟨none, none, rfl, rfl, rfl⟩
  | _, _, .cons e e' l l' h t, i => by
    unfold Instr.findNow
    rw [h]
    cases hs : Instr.sameNow kind k e.key with
    | none => exact .inl ⟨rfl, rfl⟩
    | some c =>
      cases c with
      | true => exact .inr ⟨_, _, rfl, rfl, Nat.le_refl _, e', by simp, rfl⟩
      | false =>
        rcases findNow_keys kind k t (i + 1) with ⟨h1, h2⟩ | ⟨r, r', h1, h2, h3⟩
        · exact .inl ⟨h1, h2⟩
        · refine .inr ⟨r, r', h1, h2, ?_⟩
          cases r with
          | none => exact h3
          | some q =>
            obtain ⟨j, v⟩ := q
            obtain ⟨h4, e2, h5, h6⟩ := h3
            exact ⟨by omega, e2, by rw [show j - i = (j - (i + 1)) + 1 by omega, List.getElem?_cons_succ]; exact h5, h6⟩
theorem findAsking_keys (kt : TypeId) (k : Value) : ∀ {es es' : List MapEntry}, Keys es es' → ∀ (i : Nat) {r : Option (Nat × Value)}, flatRun P (Instr.findAsking kt k es i) = some r → ∀ w, ∃ r', (Instr.findAsking kt k es' i).run P w = .ok r' w ∧ sameAt es' i r r'
  | _, _, .nil, i, r, h, w => by
    have : r = none := by simpa [Instr.findAsking, flatRun, pure] using h.symm
    subst this
    exact ⟨none, rfl, rfl⟩
  | _, _, .cons e e' l l' h t, i, r, hr, w => by
    unfold Instr.findAsking at hr ⊢
    obtain ⟨c, h1, h2⟩ := flatRun_bind _ hr
    have h3 := flat_run _ h1 w
    rw [← h] at h3
    simp only [Sem.run_bind, h3, Result.andThen_ok]
    cases c with
    | true =>
      simp only [if_true] at h2 ⊢
      have : r = some (i, e.val) := by simpa [flatRun, pure] using h2.symm
      subst this
      exact ⟨_, rfl, Nat.le_refl _, e', by simp, rfl⟩
    | false =>
      simp only [Bool.false_eq_true, if_false] at h2 ⊢
      obtain ⟨r', h4, h5⟩ := findAsking_keys kt k t (i + 1) h2 w
      refine ⟨r', h4, ?_⟩
      cases r with
      | none => exact h5
      | some q =>
        obtain ⟨j, v⟩ := q
        obtain ⟨h6, e2, h7, h8⟩ := h5
        exact ⟨by omega, e2, by rw [show j - i = (j - (i + 1)) + 1 by omega, List.getElem?_cons_succ]; exact h7, h8⟩
theorem findKey_keys (kt : TypeId) (k : Value) {es es' : List MapEntry} (h : Keys es es') {r : Option (Nat × Value)} (hr : flatRun P (Instr.findKey kt k es) = some r) (w : World) : ∃ r', (Instr.findKey kt k es').run P w = .ok r' w ∧ sameAt es' 0 r r' := by
  unfold Instr.findKey at hr ⊢
  obtain ⟨d, h1, h2⟩ := flatRun_bind _ hr
  have h3 := flat_run _ h1 w
  simp only [Sem.run_bind, h3, Result.andThen_ok]
  rcases findNow_keys d k h 0 with ⟨h4, h5⟩ | ⟨q, q', h4, h5, h6⟩
  · rw [h4] at h2
    rw [h5]
    exact findAsking_keys kt k h 0 h2 w
  · rw [h4] at h2
    rw [h5]
    have : r = q := by simpa [flatRun, pure] using h2.symm
    subst this
    exact ⟨q', rfl, h6⟩

theorem erel_keys : ∀ {es es' : List MapEntry}, ERel ρ es es' → (es.all fun e => flat e.key) = true → Keys (es.map plainE) es'
  | _, _, .nil, _ => .nil
  | _, _, .cons e e' l l' h t, k => by
    simp only [List.all_cons, Bool.and_eq_true] at k
    exact .cons _ _ _ _ (flat_eq h.1 k.1) (erel_keys t k.2)
theorem ERel.length : ∀ {es es' : List MapEntry}, ERel ρ es es' → es.length = es'.length
  | _, _, .nil => rfl
  | _, _, .cons _ _ _ _ _ t => by simp [ERel.length t]
theorem ERel.get : ∀ {es es' : List MapEntry}, ERel ρ es es' → ∀ {i : Nat} {e : MapEntry}, es[i]? = some e → ∃ e', es'[i]? = some e' ∧ VRels ρ e e'
  | _, _, .nil, _, _, h => by simp at h
  | _, _, .cons e e' l l' h t, 0, _, k => by simp at k; subst k; exact ⟨e', by simp, h⟩
  | _, _, .cons e e' l l' h t, i + 1, _, k => by simp at k ⊢; exact ERel.get t k
theorem ERel.append : ∀ {a a' c c' : List MapEntry}, ERel ρ a a' → ERel ρ c c' → ERel ρ (a ++ c) (a' ++ c')
  | _, _, _, _, .nil, h => h
  | _, _, _, _, .cons _ _ _ _ h t, k => .cons _ _ _ _ h (ERel.append t k)
theorem ERel.set : ∀ {es es' : List MapEntry}, ERel ρ es es' → ∀ {e e' : MapEntry}, VRels ρ e e' → ∀ i, ERel ρ (es.set i e) (es'.set i e')
  | _, _, .nil, _, _, _, _ => .nil
  | _, _, .cons _ _ _ _ _h t, _, _, k, 0 => .cons _ _ _ _ k t
  | _, _, .cons _ _ _ _ h t, _, _, k, i + 1 => .cons _ _ _ _ h (ERel.set t k i)
theorem ERel.take : ∀ {es es' : List MapEntry}, ERel ρ es es' → ∀ i, ERel ρ (es.take i) (es'.take i)
  | _, _, .nil, _ => by simp; exact .nil
  | _, _, .cons _ _ _ _ h t, 0 => .nil
  | _, _, .cons _ _ _ _ h t, i + 1 => .cons _ _ _ _ h (ERel.take t i)
theorem ERel.drop : ∀ {es es' : List MapEntry}, ERel ρ es es' → ∀ i, ERel ρ (es.drop i) (es'.drop i)
  | _, _, .nil, _ => by simp; exact .nil
  | _, _, .cons _ _ _ _ h t, 0 => .cons _ _ _ _ h t
  | _, _, .cons _ _ _ _ h t, i + 1 => by simpa using ERel.drop t i
theorem ERel.erase {es es' : List MapEntry} (h : ERel ρ es es') (i : Nat) : ERel ρ (es.eraseIdx i) (es'.eraseIdx i) := by
  rw [List.eraseIdx_eq_take_drop_succ, List.eraseIdx_eq_take_drop_succ]
  exact (h.take i).append (h.drop (i + 1))

/-- What a search finds. -/
theorem findE_ok {kt : TypeId} {em : Bool} {k k' : Value} {es es' : List MapEntry} {r : Option Nat} (h : findE P kt em k es = some r) (hk : VRel ρ k k') (he : ERel ρ es es') (w : World) :
    k' = k ∧ (es.all fun e => flat e.key) = true ∧ (Instr.checkKey em 10000 kt k').run P w = .ok () w ∧ ∃ r', (Instr.findKey kt k' es').run P w = .ok r' w ∧
      (match r with | none => r' = none | some i => ∃ e', es'[i]? = some e' ∧ r' = some (i, e'.val)) := by
  unfold findE at h
  cases hf : (flat k && es.all fun e => flat e.key) with
  | false => rw [hf] at h; cases h
  | true =>
    rw [hf] at h
    simp only [cond_true] at h
    simp only [Bool.and_eq_true] at hf
    have e1 := flat_eq hk hf.1
    subst e1
    cases hr : flatRun P (do Instr.checkKey em 10000 kt k'; Instr.findKey kt k' (es.map plainE)) with
    | none => rw [hr] at h; cases h
    | some q =>
      obtain ⟨_, h1, h2⟩ := flatRun_bind _ hr
      obtain ⟨r', h3, h4⟩ := findKey_keys kt k' (erel_keys he hf.2) h2 w
      refine ⟨rfl, hf.2, flat_run _ h1 w, r', h3, ?_⟩
      rw [hr] at h
      cases q with
      | none => injection h with h; subst h; exact h4
      | some p =>
        obtain ⟨j, v⟩ := p
        injection h with h
        subst h
        obtain ⟨_, e2, h5, h6⟩ := h4
        exact ⟨e2, by simpa using h5, h6⟩

/-- The same search, for keys that are texts. -/
theorem findS_ok {k k' : Value} (hk : VRel ρ k k') : ∀ {es es' : List MapEntry}, ERel ρ es es' → ∀ (i : Nat) {r : Option Nat}, findS k es i = some r →
    ∃ r', Instr.findNow .string k' es' i = some r' ∧ (match r with | none => r' = none | some j => i ≤ j ∧ ∃ e', es'[j - i]? = some e' ∧ r' = some (j, e'.val))
  | _, _, .nil, i, r, h => by
    have h : some none = some r := h
    injection h with h
    subst h
    exact ⟨none, rfl, rfl⟩
  | _, _, .cons e e' l l' he t, i, r, h => by
    have h : (match keyEq k e.key with | some true => some (some i) | some false => findS k l (Nat.succ i) | none => none) = some r := h
    split at h
    · rename_i hq
      obtain ⟨x, y, rfl, hy, hxy⟩ := keyEq_ok hq hk he.1
      injection h with h
      subst h
      refine ⟨some (i, e'.val), ?_, Nat.le_refl _, e', by simp, rfl⟩
      unfold Instr.findNow
      rw [hy]
      show (match (some (x == y) : Option Bool) with | some true => some (some (i, e'.val)) | some false => Instr.findNow .string _ l' (i + 1) | none => none) = _
      rw [← hxy]
    · rename_i hq
      obtain ⟨x, y, rfl, hy, hxy⟩ := keyEq_ok hq hk he.1
      obtain ⟨r', h1, h2⟩ := findS_ok hk t (i + 1) h
      refine ⟨r', ?_, ?_⟩
      · unfold Instr.findNow
        rw [hy]
        show (match (some (x == y) : Option Bool) with | some true => some (some (i, e'.val)) | some false => Instr.findNow .string _ l' (i + 1) | none => none) = _
        rw [← hxy]
        exact h1
      · cases r with
        | none => exact h2
        | some j =>
          obtain ⟨h3, e2, h4, h5⟩ := h2
          exact ⟨by omega, e2, by rw [show j - i = (j - (i + 1)) + 1 by omega, List.getElem?_cons_succ]; exact h4, h5⟩
    · cases h
theorem findX_ok {kt : TypeId} {em : Bool} {k k' : Value} {es es' : List MapEntry} {r : Option Nat} (h : findX P kt em k es = some r) (hk : VRel ρ k k') (he : ERel ρ es es') (w : World) :
    (Instr.checkKey em 10000 kt k').run P w = .ok () w ∧ ∃ r', (Instr.findKey kt k' es').run P w = .ok r' w ∧
      (match r with | none => r' = none | some i => ∃ e', es'[i]? = some e' ∧ r' = some (i, e'.val)) := by
  unfold findX at h
  split at h
  · rename_i q hq
    injection h with h
    subst h
    obtain ⟨_, _, h1, r', h2, h3⟩ := findE_ok hq hk he w
    refine ⟨h1, r', h2, ?_⟩
    cases q with
    | none => exact h3
    | some j => exact h3
  · split at h
    · rename_i hu
      obtain ⟨r', h1, h2⟩ := findS_ok hk he 0 h
      refine ⟨?_, r', ?_, ?_⟩
      · unfold Instr.checkKey
        simp only [Sem.run_bind, xu hu, Result.andThen_ok]
        cases k' <;> rfl
      · unfold Instr.findKey
        simp only [Sem.run_bind, xu hu, Result.andThen_ok, h1]
        rfl
      · cases r with
        | none => exact h2
        | some j => exact h2.2
    · cases h

theorem mapOf_ok {r : Nat} {m : Array MapEntry × Nat} {l : Loc} (h : mapOf r s = some m) (hl : ρ r = some l) (hw : WRel P b ρ s w) : s.heap.get r = some (.obj (.map m.1 m.2)) ∧ ∃ es', w.heap[l.blk]? = some (.map ⟨es'⟩ m.2) ∧ ERel ρ m.1.toList es' := by
  unfold mapOf at h
  cases hg : s.heap.get r with
  | none => rw [hg] at h; cases h
  | some o =>
    rw [hg] at h
    cases o <;> first | (cases h; done) | skip
    rename_i o
    cases o <;> first | (cases h; done) | skip
    injection h with h
    subst h
    obtain ⟨o', h1, _, es', rfl, h2⟩ := hw.heap _ _ _ hg (by simp) hl
    exact ⟨rfl, es', h1, h2⟩
theorem run_getMap {r : Nat} {es : Array MapEntry} {c : Nat} (h : w.heap[r]? = some (.map es c)) : (getObj r).run P w = .ok (.map es c) w := by
  simp [getObj, Sem.run, h]
theorem run_setMap {r : Nat} {es : Array MapEntry} {c : Nat} (h : w.heap[r]? = some (.map es c)) (o : Obj) : (setObj r o).run P w = .ok () (setBlk w r o) := by
  simp [setObj, Sem.run, h, setBlk]

theorem doLookup_ok {t : TypeId} {x x' k k' v : Value} {ok : Bool} {s' : St} (h : doLookup P t x k ok s = .ok v s') (hx : VRel ρ x x') (hk : VRel ρ k k') (hw : WRel P b ρ s w) : s' = s ∧ QOk P ρ w v (Instr.lookup t x' k' ok) := by
  have pair : ∀ {u u' : Value} (c : Bool), VRel ρ u u' → VRel ρ (.tuple #[u, .bool c]) (.tuple #[u', .bool c]) := fun c h => .tuple _ _ (.cons _ _ _ _ h (.cons _ _ _ _ (.bool c) .nil))
  unfold doLookup at h
  cases hu : P.underlying t with
  | none => rw [hu] at h; cases h
  | some d =>
    rw [hu] at h
    cases d <;> first | (cases h; done) | skip
    rename_i kt vt
    -- what lies in the map
    have key : ∀ {es es' : List MapEntry} {i : Option Nat}, findX P kt es.isEmpty k es = some i → ERel ρ es es' →
        (match i with
          | none => ofO (zeroT P vt) 174 fun z => Rs.ok (bif ok then Value.tuple #[z, .bool false] else z) s
          | some i => ofO (nth es i) 175 fun e => Rs.ok (bif ok then Value.tuple #[e.val, .bool true] else e.val) s) = Rs.ok v s' →
        s' = s ∧ True ∧ ∃ r' v', (Instr.checkKey es'.isEmpty 10000 kt k').run P w = .ok () w ∧ (Instr.findKey kt k' es').run P w = .ok r' w ∧ VRel ρ v v' ∧
          ((r' = none ∧ ∃ z, (zeroValue vt).run P w = .ok z w ∧ v' = if ok then .tuple #[z, .bool false] else z) ∨ ∃ j u, r' = some (j, u) ∧ v' = if ok then .tuple #[u, .bool true] else u) := by
      intro es es' i hf he h
      obtain ⟨h1, r', h2, h3⟩ := findX_ok hf hk he w
      have hem : es'.isEmpty = es.isEmpty := by
        cases he <;> rfl
      rw [hem]
      cases i with
      | none =>
        dsimp only at h h3
        obtain ⟨z, hz, h⟩ := ofO_ok h
        injection h with e1 e2
        subst e1; subst e2
        obtain ⟨hzv, hzf⟩ := xz hz w
        subst h3
        cases ok
        · exact ⟨rfl, trivial, _, _, h1, h2, flat_refl ρ hzf, .inl ⟨rfl, z, hzv, by simp⟩⟩
        · exact ⟨rfl, trivial, _, _, h1, h2, pair _ (flat_refl ρ hzf), .inl ⟨rfl, z, hzv, by simp⟩⟩
      | some i =>
        dsimp only at h h3
        obtain ⟨e, he2, h⟩ := ofO_ok h
        injection h with e1 e2
        subst e1; subst e2
        rw [nth_eq] at he2
        obtain ⟨e', h4, rfl⟩ := h3
        obtain ⟨e'', h5, h6⟩ := he.get he2
        rw [h4] at h5
        injection h5 with h5
        subst h5
        cases ok
        · exact ⟨rfl, trivial, _, _, h1, h2, h6.2.1, .inr ⟨i, e'.val, rfl, by simp⟩⟩
        · exact ⟨rfl, trivial, _, _, h1, h2, pair _ h6.2.1, .inr ⟨i, e'.val, rfl, by simp⟩⟩
    cases hx <;> first | (cases h; done) | skip
    case mapN =>
      dsimp only at h
      obtain ⟨e, he, h⟩ := ofO_ok h
      injection he with he
      subst he
      obtain ⟨i, hi, h⟩ := ofO_ok h
      obtain ⟨h1, _, r', v', h2, h3, h4, h5⟩ := key (es := []) (es' := []) hi .nil h
      refine ⟨h1, v', h4, ?_⟩
      have h2' : (Instr.checkKey true 10000 kt k').run P w = .ok () w := h2
      rcases h5 with ⟨rfl, z, hz, rfl⟩ | ⟨j, u, rfl, rfl⟩
      · cases ok <;> simp [Instr.lookup, xu hu, h2', h3, hz]
      · cases ok <;> simp [Instr.lookup, xu hu, h2', h3]
    case map r l hr =>
      dsimp only at h
      obtain ⟨e, he, h⟩ := ofO_ok h
      obtain ⟨i, hi, h⟩ := ofO_ok h
      obtain ⟨h4, es', h5, h6⟩ := mapOf_ok he hr hw
      have hie : e.1.isEmpty = e.1.toList.isEmpty := by cases e; simp
      rw [hie] at hi
      obtain ⟨h1, _, r', v', h2, h3, h7, h8⟩ := key hi h6 h
      refine ⟨h1, v', h7, ?_⟩
      have hem : (⟨es'⟩ : Array MapEntry).isEmpty = es'.isEmpty := by cases es' <;> rfl
      have h2' : (Instr.checkKey (⟨es'⟩ : Array MapEntry).isEmpty 10000 kt k').run P w = .ok () w := by rw [hem]; exact h2
      have hg := run_getMap (P := P) h5
      clear hi h h6 he
      rcases h8 with ⟨rfl, z, hz, rfl⟩ | ⟨j, u, rfl, rfl⟩
      · cases ok <;> simp [Instr.lookup, xu hu, hg, h3, h2, hz]
      · cases ok <;> simp [Instr.lookup, xu hu, hg, h3, h2]
end
end Go.Proofs.YtdhkebolenbpiaaGreatDoor.X

namespace Go.Proofs.YtdhkebolenbpiaaGreatDoor.X
open Go.RowKit

section
variable {P : Program} {b : Base} {ρ : Ren} {s : St} {w : World}

theorem ERel.isEmpty : ∀ {es es' : List MapEntry}, ERel ρ es es' → es'.isEmpty = es.isEmpty
  | _, _, .nil => rfl
  | _, _, .cons _ _ _ _ _ _ => rfl
/-- A new object. -/
theorem newObj_ok (hw : WRel P b ρ s w) {o o' : Obj} (ho : ∀ ρ' : Ren, ρ.Le ρ' → OORel ρ' o o') :
    Ok P b ρ s (ρ.upd s.next ⟨w.heap.size, 0, 0⟩) (newObjA o s) (w.alloc o') ∧ (newObj o').run P w = .ok w.heap.size (w.alloc o') ∧ (ρ.upd s.next ⟨w.heap.size, 0, 0⟩) s.next = some ⟨w.heap.size, 0, 0⟩ :=
  ⟨hw.new 0 fun ρ' hle _ => ⟨rfl, ho ρ' hle⟩, rfl, upd_self _ _ _⟩
theorem doMakeMap_ok {t : TypeId} {r r' : Option Value} {v : Value} {s' : St} (h : doMakeMap P t r s = .ok v s') (hr : ORelV ρ r r') (hw : WRel P b ρ s w) : EOk P b ρ s s' w v (Instr.makeMap t r') := by
  unfold doMakeMap at h
  cases hu : P.underlying t with
  | none => rw [hu] at h; cases h
  | some d =>
    rw [hu] at h
    cases d <;> first | (cases h; done) | skip
    obtain ⟨h1, h2, h3⟩ := newObj_ok hw (o := .map #[] 0) (o' := .map ⟨[]⟩ 0) fun ρ' _ => ⟨[], rfl, .nil⟩
    cases r with
    | none =>
      injection h with e1 e2
      subst e1; subst e2
      have : r' = none := hr
      subst this
      exact ⟨_, _, _, h1, .map _ _ h3, by simp [Instr.makeMap]⟩
    | some x =>
      obtain ⟨x', rfl, hx⟩ := hr
      cases hx <;> first | (cases h; done) | skip
      injection h with e1 e2
      subst e1; subst e2
      exact ⟨_, _, _, h1, .map _ _ h3, by simp [Instr.makeMap, xu hu, asInt, asIntOf]⟩
theorem modify_set {α : Type} (l : List α) (i : Nat) (f : α → α) {x : α} (h : l[i]? = some x) : (⟨l⟩ : Array α).modify i f = ⟨l.set i (f x)⟩ := by
  apply Array.ext_getElem?
  intro j
  rw [Array.getElem?_modify]
  simp only [List.getElem?_toArray, List.getElem?_set]
  by_cases hj : i = j
  · subst hj
    obtain ⟨hl, hx⟩ := List.getElem?_eq_some_iff.1 h
    simp [hl, hx]
  · simp [hj]
theorem setObj_ok (hw : WRel P b ρ s w) {r : Nat} {l : Loc} {o o1 o1' : Obj} (hg : s.heap.get r = some (.obj o)) (hl : ρ r = some l) (hG : b.G ≤ r) (ho : OORel ρ o1 o1') : Ok P b ρ s ρ (setObjA s r o1) (setBlk w l.blk o1') :=
  hw.set hg (by simp) hl hG ⟨(let ⟨_, _, h, _⟩ := hw.heap _ _ _ hg (by simp) hl; h), ho⟩
theorem doMapUpdate_ok {t : TypeId} {x x' k k' u u' v : Value} {s' : St} (h : doMapUpdate P b.G t x k u s = .ok v s') (hx : VRel ρ x x') (hk : VRel ρ k k') (hu' : VRel ρ u u') (hw : WRel P b ρ s w) :
    v = undef ∧ ∃ w', Ok P b ρ s ρ s' w' ∧ (Instr.mapUpdate t x' k' u').run P w = .ok () w' := by
  unfold doMapUpdate at h
  cases hu : P.underlying t with
  | none => rw [hu] at h; cases h
  | some d =>
    rw [hu] at h
    cases d <;> first | (cases h; done) | skip
    cases hx <;> first | (cases h; done) | skip
    rename_i kt vt r l hr
    dsimp only at h
    cases hG : Nat.ble b.G r with
    | false => rw [hG] at h; cases h
    | true =>
      rw [hG] at h
      simp only [Bool.not_true, cond_false] at h
      have hG := Nat.le_of_ble_eq_true hG
      obtain ⟨e, he, h⟩ := ofO_ok h
      obtain ⟨i, hi, h⟩ := ofO_ok h
      obtain ⟨h4, es', h5, h6⟩ := mapOf_ok he hr hw
      obtain ⟨h1, r', h2, h3⟩ := findX_ok hi hk h6 w
      have hgm := run_getMap (P := P) h5
      cases i with
      | none =>
        dsimp only at h h3
        subst h3
        injection h with e1 e2
        subst e1; subst e2
        rw [appL_eq]
        refine ⟨rfl, _, setObj_ok hw h4 hr hG (o1' := .map ⟨es' ++ [{ key := k', val := u', born := e.2 }]⟩ (Nat.succ e.2)) ⟨_, rfl, h6.append (.cons _ _ _ _ ⟨hk, hu', rfl⟩ .nil)⟩, ?_⟩
        have := run_setMap (P := P) h5 (.map ⟨es' ++ [{ key := k', val := u', born := e.2 }]⟩ (Nat.succ e.2))
        simp [Instr.mapUpdate, xu hu, hgm, h1, h2]
        simpa using this
      | some j =>
        dsimp only at h h3
        obtain ⟨y, hy, h⟩ := ofO_ok h
        obtain ⟨hsb, h⟩ := bif_ok h
        simp only [Bool.and_eq_true] at hsb
        obtain ⟨⟨hfk, hfy⟩, hsb⟩ := hsb
        have ek := flat_eq hk hfk
        subst ek
        injection h with e1 e2
        subst e1; subst e2
        rw [nth_eq] at hy
        obtain ⟨e', h7, rfl⟩ := h3
        obtain ⟨e'', h8, h9⟩ := h6.get hy
        rw [h7] at h8
        injection h8 with h8
        subst h8
        have hkey : e'.key = y.key := by
          exact flat_eq h9.1 hfy
        rw [setL_eq]
        have hmod := modify_set es' j (fun e => { e with key := k', val := u' }) h7
        refine ⟨rfl, _, setObj_ok hw h4 hr hG (o1' := .map ⟨es'.set j { e' with key := k', val := u' }⟩ e.2) ⟨_, rfl, h6.set (e := { key := k', val := u, born := y.born }) (e' := { e' with key := k', val := u' }) ⟨hk, hu', h9.2.2⟩ j⟩, ?_⟩
        have := run_setMap (P := P) h5 (.map ⟨es'.set j { e' with key := k', val := u' }⟩ e.2)
        have hst : (Instr.keyThatStays ((((⟨es'⟩ : Array MapEntry)[j]?).map (·.key)).getD k') k').run P w = .ok k' w := by
          have e0 : (((⟨es'⟩ : Array MapEntry)[j]?).map (·.key)).getD k' = y.key := by simp [h7, hkey]
          rw [e0]
          unfold Instr.keyThatStays
          rw [if_pos hsb]
          rfl
        simp only [Instr.mapUpdate, Sem.run_bind, xu hu, Result.andThen_ok, hgm, h1, h2, hst, hmod]
        exact this
theorem doDelete_ok {ts : Array TypeId} {ty : TypeId} {args args' : List Value} {v : Value} {s' : St} (h : doDelete P b.G ts.toList args s = .ok v s') (ha : LRel ρ args args') (hw : WRel P b ρ s w) :
    EOk P b ρ s s' w v (Builtin.delete_ ts ty ⟨args'⟩) := by
  have vt : VRel ρ (.tuple #[]) (.tuple #[]) := .tuple _ _ .nil
  obtain ⟨ts⟩ := ts
  unfold doDelete at h
  rcases ts with _ | ⟨t, r⟩ <;> first | (cases h; done) | skip
  cases ha with
  | nil => cases h
  | cons x0 x0' l l' hx0 hl =>
    cases hl with
    | nil => cases x0 <;> first | (cases h; done) | (rename_i m; cases m <;> cases h)
    | cons x x' l2 l2' hx hl2 =>
      cases hl2 with
      | cons _ _ _ _ _ _ => cases x0 <;> first | (cases h; done) | (rename_i m; cases m <;> cases h)
      | nil =>
        cases hx0 <;> first | (cases h; done) | skip
        rename_i r l hr
        dsimp only at h
        cases hu : P.underlying t with
        | none => rw [hu] at h; cases h
        | some d =>
          rw [hu] at h
          cases d <;> first | (cases h; done) | skip
          rename_i kt vt'
          dsimp only at h
          cases hG : Nat.ble b.G r with
          | false => rw [hG] at h; cases h
          | true =>
            rw [hG] at h
            simp only [Bool.not_true, cond_false] at h
            have hG := Nat.le_of_ble_eq_true hG
            obtain ⟨e, he, h⟩ := ofO_ok h
            obtain ⟨i, hi, h⟩ := ofO_ok h
            obtain ⟨h4, es', h5, h6⟩ := mapOf_ok he hr hw
            have hie : e.1.isEmpty = e.1.toList.isEmpty := by cases e; simp
            rw [hie] at hi
            obtain ⟨h1, r', h2, h3⟩ := findX_ok hi hx h6 w
            have hem : (⟨es'⟩ : Array MapEntry).isEmpty = e.1.toList.isEmpty := by
              have : (⟨es'⟩ : Array MapEntry).isEmpty = es'.isEmpty := by cases es' <;> rfl
              rw [this]; exact h6.isEmpty
            rw [← hem] at h1
            have hgm := run_getMap (P := P) h5
            cases i with
            | none =>
              dsimp only at h h3
              subst h3
              injection h with e1 e2
              subst e1; subst e2
              have := run_setMap (P := P) h5 (.map ⟨es'⟩ e.2)
              rw [setBlk_self h5] at this
              refine ⟨ρ, w, _, .refl hw, vt, ?_⟩
              have hem2 : es'.isEmpty = (⟨es'⟩ : Array MapEntry).isEmpty := by cases es' <;> rfl
              simp only [Builtin.delete_, Sem.run_bind, List.getElem?_toArray, List.getElem?_cons_zero, List.getElem?_cons_succ, xu hu, Result.andThen_ok, hgm, h1, h2, this, Sem.run_pure]
            | some j =>
              dsimp only at h h3
              injection h with e1 e2
              subst e1; subst e2
              obtain ⟨e', h7, rfl⟩ := h3
              have hjl := (List.getElem?_eq_some_iff.1 h7).1
              have her : (⟨es'⟩ : Array MapEntry).eraseIdxIfInBounds j = ⟨es'.eraseIdx j⟩ := by
                apply Array.ext'
                simp [Array.eraseIdxIfInBounds, hjl]
              have hset := setObj_ok hw h4 hr hG (o1 := .map ⟨e.1.toList.eraseIdx j⟩ e.2) (o1' := .map ⟨es'.eraseIdx j⟩ e.2) ⟨_, rfl, h6.erase j⟩
              have := run_setMap (P := P) h5 (.map ⟨es'.eraseIdx j⟩ e.2)
              rw [appL_eq, takeL_eq, dropL_eq, ← List.eraseIdx_eq_take_drop_succ]
              refine ⟨ρ, _, _, hset, vt, ?_⟩
              simp only [Builtin.delete_, Sem.run_bind, List.getElem?_toArray, List.getElem?_cons_zero, List.getElem?_cons_succ, xu hu, Result.andThen_ok, hgm, h1, h2, her, this, Sem.run_pure]
end
end Go.Proofs.YtdhkebolenbpiaaGreatDoor.X
