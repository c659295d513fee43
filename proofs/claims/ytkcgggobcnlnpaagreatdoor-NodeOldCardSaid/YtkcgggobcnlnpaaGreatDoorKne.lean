/- A runner for closed calls, part 5: Yh Yi Yj Yk Yl. -/
import Derived.Test.YtkcgggobcnlnpaaGreatDoorKnd
import Derived.Laws.MakeOwn
import Derived.Laws.Append
import Derived.Lib.AppendZerosOnto
namespace Go.Proofs.YtkcgggobcnlnpaaGreatDoor.X
open Go.RowKit

section
variable {P : Program} {b : Base} {ρ : Ren} {s : St} {w : World}

theorem zeroT_some {t : TypeId} {z : Value} (h : zeroT P t = some z) : ∃ i, P.info? t = some i ∧ i.zero = some z ∧ flat z = true := by
  unfold zeroT at h
  cases hi : P.info? t with
  | none => rw [hi] at h; cases h
  | some i =>
    rw [hi] at h
    cases hz : i.zero with
    | none => simp [hz] at h
    | some z' =>
      simp only [Option.bind_some, hz] at h
      cases hf : flat z' with
      | false => rw [hf] at h; cases h
      | true => rw [hf] at h; injection h with h; subst h; exact ⟨i, rfl, hz, hf⟩
theorem bytesT_some {t : TypeId} {n : Nat} (h : bytesT P t = some n) : ∃ i, P.info? t = some i ∧ i.bytes = n := by
  unfold bytesT at h
  cases hi : P.info? t with
  | none => rw [hi] at h; cases h
  | some i => rw [hi] at h; injection h with h; exact ⟨i, rfl, h⟩

theorem doBuild_ok {t : TypeId} {ps ps' : List (Nat × Value)} {v : Value} {s' : St} (h : doBuild P t ps s = .ok v s') (hp : PRel ρ ps ps') : s' = s ∧ QOk P ρ w v (Instr.build t ⟨ps'⟩) := by
  unfold doBuild at h
  obtain ⟨z, hz, h⟩ := ofO_ok h
  obtain ⟨i, hi, hiz, hzf⟩ := zeroT_some hz
  have hzr : LRel ρ (cellsOf z) z.cells.toList := cells_rel (flat_refl ρ hzf)
  cases hu : P.underlying t with
  | none => rw [hu] at h; cases h
  | some d =>
    rw [hu] at h
    cases d <;> first | (cases h; done) | skip
    case struct fs =>
      obtain ⟨pl, hpl, h⟩ := ofO_ok h
      obtain ⟨cs, hcs, h⟩ := ofO_ok h
      injection h with e1 e2
      subst e1; subst e2
      unfold placesT at hpl
      rw [hu] at hpl
      obtain ⟨out, h1, h2⟩ := fill_ok (place' := fun x => pl.toArray[x]?) (fun i => by rw [nth_eq]; simp) hp hzr hcs
      refine ⟨rfl, _, .agg _ _ h2, run_build w t ⟨ps'⟩ ⟨out⟩ ?_⟩
      simp only [Program.built, hi, hu, hiz, hpl]
      exact h1
    case array n e =>
      obtain ⟨m, hm, h⟩ := ofO_ok h
      obtain ⟨cs, hcs, h⟩ := ofO_ok h
      injection h with e1 e2
      subst e1; subst e2
      obtain ⟨ie, hie, rfl⟩ := szT_size hm
      obtain ⟨out, h1, h2⟩ := fill_ok (place' := fun i => some (i * ie.size, ie.size)) (fun i => rfl) hp hzr hcs
      refine ⟨rfl, _, .agg _ _ h2, run_build w t ⟨ps'⟩ ⟨out⟩ ?_⟩
      simp only [Program.built, hi, hu, hiz, hie]
      exact h1

theorem doAssert_ok {x x' v : Value} {xt t : TypeId} {ok : Bool} {s' : St} (h : doAssert P x t ok s = .ok v s') (hx : VRel ρ x x') : s' = s ∧ QOk P ρ w v (Instr.typeAssert x' xt t ok) := by
  have pair : ∀ {u u' : Value} (c : Bool), VRel ρ u u' → VRel ρ (.tuple #[u, .bool c]) (.tuple #[u', .bool c]) := fun c h => .tuple _ _ (.cons _ _ _ _ h (.cons _ _ _ _ (.bool c) .nil))
  unfold doAssert at h
  cases hu : P.underlying t with
  | none => rw [hu] at h; cases h
  | some d =>
    rw [hu] at h
    have zero : ∀ {c : Nat}, (ofO (zeroT P t) c fun z => .ok (.tuple #[z, .bool false]) s) = .ok v s' → s' = s ∧ ∃ z, VRel ρ v (.tuple #[z, .bool false]) ∧ (zeroValue t).run P w = .ok z w := fun h => by
      obtain ⟨z, hz, h⟩ := ofO_ok h
      injection h with e1 e2
      subst e1; subst e2
      obtain ⟨h1, h2⟩ := xz hz w
      exact ⟨rfl, z, pair _ (flat_refl ρ h2), h1⟩
    cases hx <;> first | (cases d <;> cases h; done) | skip
    case nilIface =>
      cases ok with
      | false => cases d <;> cases h
      | true =>
        cases d <;> simp only [cond_true] at h <;> (
          obtain ⟨h1, z, h2, h3⟩ := zero h
          refine ⟨h1, _, h2, ?_⟩
          simp [Instr.typeAssert, xu hu, h3])
    case iface tt u u' hu' =>
      cases d
      case interface want =>
        dsimp only at h
        obtain ⟨i, hi, h⟩ := ofO_ok h
        cases hm : Instr.missingMethod want i.methods with
        | none =>
          rw [hm] at h
          dsimp only at h
          injection h with e1 e2
          subst e1; subst e2
          cases ok
          · exact ⟨rfl, _, .iface _ _ _ hu', by simp [Instr.typeAssert, xu hu, xi hi, hm]⟩
          · exact ⟨rfl, _, pair _ (.iface _ _ _ hu'), by simp [Instr.typeAssert, xu hu, xi hi, hm]⟩
        | some _ =>
          rw [hm] at h
          cases ok with
          | false => cases h
          | true =>
            obtain ⟨h1, z, h2, h3⟩ := zero h
            exact ⟨h1, _, h2, by simp [Instr.typeAssert, xu hu, xi hi, hm, h3]⟩
      all_goals
        dsimp only at h
        cases hb : Nat.beq tt t with
        | true =>
          have := Nat.eq_of_beq_eq_true hb
          subst this
          rw [hb] at h
          simp only [cond_true] at h
          injection h with e1 e2
          subst e1; subst e2
          cases ok
          · exact ⟨rfl, _, hu', by simp [Instr.typeAssert, xu hu]⟩
          · exact ⟨rfl, _, pair _ hu', by simp [Instr.typeAssert, xu hu]⟩
        | false =>
          have hne : tt ≠ t := by
            rintro rfl
            simp at hb
          rw [hb] at h
          cases ok with
          | false => cases h
          | true =>
            obtain ⟨h1, z, h2, h3⟩ := zero h
            exact ⟨h1, _, h2, by simp [Instr.typeAssert, xu hu, hne, h3]⟩

/-! ### What makes -/
noncomputable def newS (cs : List Value) (e : TypeId) (lo : Bool) (s : St) : St := { heap := s.heap.set s.next (.row cs e lo), next := Nat.succ s.next }
/-- A new block comes of it, whenever it is run. -/
def MadeR (P : Program) (ρ : Ren) (w : World) (id : Nat) (cs : List Value) (e : TypeId) (lo : Bool) (v : Value) (x : Sem Value) : Prop :=
  ∃ o' cap v', x.run P w = .ok v' (w.alloc o') ∧ ∀ ρ' : Ren, ρ.Le ρ' → ρ' id = some ⟨w.heap.size, 0, cap⟩ → ORel P ρ' ⟨w.heap.size, 0, cap⟩ (.row cs e lo) o' ∧ VRel ρ' v v'
theorem row_exact {cs cs' : List Value} (h : LRel ρ cs cs') (g cap : Nat) (e : TypeId) : ORel P ρ ⟨g, 0, cap⟩ (.row cs e false) (.cells ⟨cs'⟩ e (0, 0)) :=
  ⟨⟨cs'⟩, (0, 0), rfl, fun j _ hc => by simp at hc, by show 0 + cs.length ≤ cs'.length; rw [h.length]; omega, fun j v hj => by
    obtain ⟨v', h1, h2⟩ := h.get hj
    exact ⟨v', by simpa using h1, h2⟩, fun h => by cases h⟩
theorem ptr_new {ρ' : Ren} {id g cap : Nat} (h : ρ' id = some ⟨g, 0, cap⟩) : VRel ρ' (.pointer (some ⟨id, 0, none⟩)) (.pointer (some ⟨g, 0, none⟩)) :=
  .ptr _ _ ⟨rfl, _, h, rfl⟩
theorem newRow_ok {cs : List Value} {e : TypeId} {lo : Bool} {v : Value} {s' : St} (h : newRow cs e lo s = .ok v s') : v = .pointer (some ⟨s.next, 0, none⟩) ∧ s' = newS cs e lo s := by
  injection h with e1 e2
  exact ⟨e1.symm, e2.symm⟩
theorem sliceOf_ok {n c : Nat} {cs : List Value} {e : TypeId} {lo : Bool} {v : Value} {s' : St} (h : sliceOf n c (newRow cs e lo s) = .ok v s') : v = .slice (some ⟨s.next, 0, none⟩) n c ∧ s' = newS cs e lo s := by
  injection h with e1 e2
  exact ⟨e1.symm, e2.symm⟩
theorem doAlloc_ok {t : TypeId} {v : Value} {s' : St} {c : Nat} (h : (ofO (zeroT P t) c fun z => newRow (cellsOf z) t false s) = .ok v s') :
    ∃ cs e lo, s' = newS cs e lo s ∧ ∀ (ρ : Ren) (w : World), MadeR P ρ w s.next cs e lo v (Instr.alloc t true (.tuple #[])) := by
  obtain ⟨z, hz, h⟩ := ofO_ok h
  obtain ⟨rfl, rfl⟩ := newRow_ok h
  refine ⟨_, _, _, rfl, fun ρ w => ?_⟩
  obtain ⟨h1, h2⟩ := xz hz w
  refine ⟨_, 0, _, ?_, fun ρ' hle hid => ⟨row_exact (cells_rel (flat_refl ρ' h2)) _ _ _, ptr_new hid⟩⟩
  simp [Instr.alloc, h1, newVar, Go.newRow]
theorem doBox_ok {t : TypeId} {x v : Value} {s' : St} (h : newRow (cellsOf x) t false s = .ok v s') :
    ∃ cs e lo, s' = newS cs e lo s ∧ ∀ (ρ : Ren) (w : World) (x' : Value), VRel ρ x x' → MadeR P ρ w s.next cs e lo v (Instr.box t x') := by
  obtain ⟨rfl, rfl⟩ := newRow_ok h
  refine ⟨_, _, _, rfl, fun ρ w x' hx => ⟨_, 0, _, ?_, fun ρ' hle hid => ⟨row_exact (cells_rel (hx.mono hle)) _ _ _, ptr_new hid⟩⟩⟩
  simp [Instr.box, newVar, Go.newRow]

theorem repL_get (z : List Value) : ∀ (n j : Nat), j < n * z.length → (repL n z)[j]? = z[j % z.length]?
  | 0, j, h => by simp at h
  | n + 1, j, h => by
    have e : repL (n + 1) z = z ++ repL n z := by rw [← appL_eq]; rfl
    rw [e]
    by_cases h1 : j < z.length
    · rw [List.getElem?_append_left h1, Nat.mod_eq_of_lt h1]
    · have h' : (n + 1) * z.length = n * z.length + z.length := Nat.succ_mul _ _
      rw [List.getElem?_append_right (by omega), repL_get z n _ (by omega), Nat.mod_eq_sub_mod (a := j) (by omega)]
theorem repL_length (z : List Value) : ∀ (n : Nat), (repL n z).length = n * z.length
  | 0 => by rw [Nat.zero_mul]; rfl
  | n + 1 => by
    have e : repL (n + 1) z = z ++ repL n z := by rw [← appL_eq]; rfl
    rw [e, List.length_append, repL_length z n, Nat.add_mul]; omega
theorem made_rep (z : Array Value) (n : Nat) : ((Array.range (n * z.size)).map fun i => z[i % z.size]!).toList = repL n z.toList := by
  apply List.ext_getElem?
  intro j
  by_cases h : j < n * z.size
  · rw [repL_get _ _ _ (by simpa using h)]
    have hz : 0 < z.size := by
      rcases Nat.eq_zero_or_pos z.size with h0 | h0
      · rw [h0] at h; simp at h
      · exact h0
    have hm := Nat.mod_lt j hz
    simp [h, hm, getElem!_pos]
  · rw [List.getElem?_eq_none (by simpa using h), List.getElem?_eq_none (by rw [repL_length]; simpa using h)]
theorem repL_rel {z z' : List Value} (h : LRel ρ z z') : ∀ n, LRel ρ (repL n z) (repL n z')
  | 0 => .nil
  | n + 1 => by
    have e : ∀ x : List Value, repL (n + 1) x = x ++ repL n x := fun x => by rw [← appL_eq]; rfl
    rw [e, e]
    exact h.append (repL_rel h n)

theorem slice_new {ρ' : Ren} {id g cap : Nat} (h : ρ' id = some ⟨g, 0, cap⟩) {n c : Nat} (hn : n ≤ c) (hc : isInf c = false) : VRel ρ' (.slice (some ⟨id, 0, none⟩) n c) (.slice (some ⟨g, 0, none⟩) n c) :=
  .slice _ _ _ _ _ ⟨rfl, _, h, rfl⟩ ⟨hn, by rw [if_neg (by rw [hc]; simp)]⟩
theorem doBuildSlice_ok {t : TypeId} {n : Nat} {ps : List (Nat × Value)} {v : Value} {s' : St} (h : doBuildSlice P t n ps s = .ok v s') :
    ∃ cs e lo, s' = newS cs e lo s ∧ ∀ (ρ : Ren) (w : World) (ps' : List (Nat × Value)), PRel ρ ps ps' → MadeR P ρ w s.next cs e lo v (Instr.buildSlice t n ⟨ps'⟩) := by
  unfold doBuildSlice at h
  cases hu : P.underlying t with
  | none => rw [hu] at h; cases h
  | some d =>
    rw [hu] at h
    cases d <;> first | (cases h; done) | skip
    rename_i e
    dsimp only at h
    obtain ⟨m, hm, h⟩ := ofO_ok h
    obtain ⟨z, hz, h⟩ := ofO_ok h
    obtain ⟨h1, h⟩ := bif_ok h
    obtain ⟨cs, hcs, h⟩ := ofO_ok h
    obtain ⟨rfl, rfl⟩ := sliceOf_ok h
    simp only [Bool.and_eq_true, Bool.not_eq_true', lenL_eq] at h1
    obtain ⟨hsm, hzl, hinf⟩ := h1
    obtain ⟨ie, hie, hiz, hzf⟩ := zeroT_some hz
    obtain ⟨ie', hie', rfl⟩ := szT_size hm
    rw [hie] at hie'
    injection hie' with hie'
    subst hie'
    refine ⟨_, _, _, rfl, fun ρ w ps' hp => ?_⟩
    have hzl := Nat.eq_of_beq_eq_true hzl
    have hzr : LRel ρ (cellsOf z) z.cells.toList := cells_rel (flat_refl ρ hzf)
    have hzs : z.cells.size = ie.size := by rw [← hzl, hzr.length]; exact Array.length_toList.symm
    have hrep : LRel ρ (repL n (cellsOf z)) ((Array.range (n * ie.size)).map (z.cells[· % z.cells.size]!)).toList := by
      have := made_rep z.cells n
      rw [hzs] at this
      rw [hzs, this]
      exact repL_rel hzr n
    obtain ⟨out, h2, h3⟩ := fill_ok (place' := fun i => some (i * ie.size, ie.size)) (fun i => rfl) hp hrep hcs
    have hsm := Nat.le_of_ble_eq_true hsm
    refine ⟨.cells ⟨out⟩ e, 0, .slice (some ⟨w.heap.size, 0, none⟩) n n, ?_, fun ρ' hle hid => ⟨row_exact (h3.mono hle) _ _ _, slice_new hid (Nat.le_refl _) hinf⟩⟩
    have h2' : Instr.fill (fun i => some (i * ie.size, ie.size)) ((Array.range (n * ie.size)).map (z.cells[· % z.cells.size]!)) ps' = some ⟨out⟩ := h2
    by_cases hpos : n * ie.size = 0
    · have h2'' : Instr.fill (fun i => some (i * ie.size, ie.size)) #[] ps' = some ⟨out⟩ := by
        rw [hpos] at h2'
        rw [show ∀ f : Nat → Value, (Array.range 0).map f = #[] from fun f => by simp] at h2'
        exact h2'
      have hns : ¬ n * ie.size > 2 ^ 24 := by omega
      have hE : ∀ f : Nat → Value, (Array.range 0).map f = #[] := fun f => by simp
      simp only [Instr.buildSlice, Sem.run_bind, xu hu, Result.andThen_ok, xs hm, hpos, if_true, hE]
      rw [if_neg (by decide)]
      simp only [Sem.run_bind, Sem.run_pure, Result.andThen_ok]
      rw [h2'']
      simp [Go.newRow]
    · exact run_buildSlice w t e n ⟨ps'⟩ ⟨out⟩ ie z hu hie hiz (by omega) hpos h2'
theorem doMakeSlice_ok {t : TypeId} {l c v : Value} {s' : St} (h : doMakeSlice P t l c s = .ok v s') :
    ∃ cs e lo, s' = newS cs e lo s ∧ ∀ (ρ : Ren) (w : World) (l' c' : Value), VRel ρ l l' → VRel ρ c c' → MadeR P ρ w s.next cs e lo v (Instr.makeSlice t l' c') := by
  unfold doMakeSlice at h
  cases hu : P.underlying t with
  | none => rw [hu] at h; cases h
  | some d =>
    rw [hu] at h
    cases d <;> first | (cases h; done) | skip
    cases l <;> first | (cases h; done) | skip
    cases c <;> first | (cases h; done) | skip
    rename_i e kl l kc c
    dsimp only at h
    obtain ⟨m, hm, h⟩ := ofO_ok h
    obtain ⟨z, hz, h⟩ := ofO_ok h
    obtain ⟨h1, h⟩ := bif_ok h
    obtain ⟨by_, hby, h⟩ := ofO_ok h
    obtain ⟨h2, h⟩ := bif_ok h
    obtain ⟨rfl, rfl⟩ := sliceOf_ok h
    simp only [Bool.and_eq_true, lenL_eq, decide_eq_true_eq] at h1
    obtain ⟨⟨h0, hlc⟩, hc1, hzl⟩ := h1
    obtain ⟨ie, hie, hiz, hzf⟩ := zeroT_some hz
    obtain ⟨ie', hie', rfl⟩ := szT_size hm
    rw [hie] at hie'
    injection hie' with hie'
    subst hie'
    obtain ⟨ib, hib, rfl⟩ := bytesT_some hby
    rw [hie] at hib
    injection hib with hib
    subst hib
    refine ⟨_, _, _, rfl, fun ρ w l' c' hl hc => ?_⟩
    cases hl
    cases hc
    have hzl := Nat.eq_of_beq_eq_true hzl
    have hc1 := Nat.le_of_ble_eq_true hc1
    have h2 := Nat.le_of_ble_eq_true h2
    have hzr : LRel ρ (cellsOf z) z.cells.toList := cells_rel (flat_refl ρ hzf)
    have hzs : z.cells.size = ie.size := by rw [← hzl, hzr.length]; exact Array.length_toList.symm
    have hbytes : (ie.bytes : Int) * c ≤ 281474976710656 := by
      have h3 : ie.bytes * c.toNat ≤ ie.bytes * 1000000 := Nat.mul_le_mul_left _ hc1
      have h4 : (c : Int) = (c.toNat : Int) := by omega
      rw [h4]
      have h5 : ie.bytes * c.toNat ≤ 2 ^ 40 := Nat.le_trans h3 h2
      have h6 : ((ie.bytes * c.toNat : Nat) : Int) ≤ ((2 ^ 40 : Nat) : Int) := Int.ofNat_le.2 h5
      rw [Int.natCast_mul] at h6
      exact Int.le_trans h6 (by decide)
    have hrun := run_make (P := P) w t e ie z hu hie hiz kl kc l c h0 hlc hbytes (by omega)
    refine ⟨_, 0, _, hrun, fun ρ' hle hid => ⟨?_, slice_new hid (by omega) ?_⟩⟩
    · have := made_rep z.cells c.toNat
      rw [hzs] at this
      have e1 : madeCells z.cells (c.toNat * ie.size) = ⟨repL c.toNat z.cells.toList⟩ := by
        apply Array.ext'
        rw [← this]
        unfold madeCells
        rw [hzs]
      rw [e1]
      exact row_exact (repL_rel (hzr.mono hle) _) _ _ _
    · unfold isInf
      cases hb : Nat.ble (2 ^ 63) c.toNat with
      | false => rfl
      | true => have := Nat.le_of_ble_eq_true hb; omega
end
end Go.Proofs.YtkcgggobcnlnpaaGreatDoor.X

namespace Go.Proofs.YtkcgggobcnlnpaaGreatDoor.X
open Go.RowKit

section
variable {P : Program} {b : Base} {ρ : Ren} {s : St} {w : World}

/-- What append is given: how many, and their cells. -/
structure Given (P : Program) (w : World) (size n : Nat) (xt : TypeId) (x : Value) (new : List Value) : Prop where
  desc : ∃ d, P.underlying xt = some d ∧ (∀ k, d ≠ .int k)
  len : ∀ w, (Builtin.lenOf x).run P w = .ok n w
  cells : (Builtin.firstCells size n x).run P w = .ok ⟨new⟩ w
  drew : (Builtin.firstCells size n x).run P w.drew = .ok ⟨new⟩ w.drew

theorem run_append_in {t elem xt ty : TypeId} {size n sLen sCap : Nat} {base : Option Addr} {x : Value} {new : List Value} (hu : P.underlying t = some (.slice elem)) (hz : szT P elem = some size) (hg : Given P w size n xt x new)
    (hfit : sLen + n ≤ sCap) :
    (Builtin.append_ #[t, xt] ty #[.slice base sLen sCap, x]).run P w = Result.andThen (((match base with | some a => storeCells (a.add (sLen * size)) new | none => pure ()) : Sem Unit).run P w) fun _ w' => .ok (.slice base (sLen + n) sCap) w' := by
  obtain ⟨d, hd, hnk⟩ := hg.desc
  have hlen := hg.len
  have hc := hg.cells
  have hm : (match d with | .int _ => true | _ => false) = false := by
    cases d <;> first | exact absurd rfl (hnk _) | rfl
  cases base <;> simp [Builtin.append_, xu hu, xu hd, xs hz, hlen, hfit, hc]

theorem growCap_ge (w : World) (need old : Nat) (e : TypeId) : need ≤ grownCap w need old e := by
  unfold grownCap
  exact Nat.le_add_right _ _
theorem run_append_out {t elem xt ty : TypeId} {size n sLen sCap by_ : Nat} {base : Option Addr} {x zz : Value} {old new : List Value} (hu : P.underlying t = some (.slice elem)) (hz : szT P elem = some size) (hzz : zeroT P elem = some zz) (hg : Given P w size n xt x new)
    (hby : bytesT P elem = some by_) (hb0 : 0 < by_) (hb : (sLen + n) * by_ * 2 ≤ 2 ^ 40) (hfit : sCap < sLen + n) (ho : (Builtin.firstCells size sLen (.slice base sLen sCap)).run P w.drew = .ok ⟨old⟩ w.drew) :
    (Builtin.append_ #[t, xt] ty #[.slice base sLen sCap, x]).run P w = .ok (.slice (some ⟨w.heap.size, 0, none⟩) (sLen + n) (grownCap w (sLen + n) sCap elem))
      (w.drew.alloc (.cells (⟨old⟩ ++ ⟨new⟩ ++ Builtin.zeroCells zz.cells (grownCap w (sLen + n) sCap elem - (sLen + n))) elem)) := by
  obtain ⟨i, hi, rfl⟩ := bytesT_some hby
  have hzv : ∀ w, (zeroValue elem).run P w = .ok zz w := fun w => (xz hzz w).1
  have hle : sLen + n ≤ (sLen + n) * i.bytes := Nat.le_mul_of_pos_right _ hb0
  have hn : ¬ (sLen + n ≤ sCap) := by omega
  have h63' : ¬ (9223372036854775807 < ((sLen : Int) + (n : Int))) := by omega
  have h48' : ¬ (281474976710656 < Builtin.nextslicecap (sLen + n) sCap * i.bytes) := by
    have h1 := nextslicecap_le hfit
    have h2 : Builtin.nextslicecap (sLen + n) sCap * i.bytes ≤ 2 * (sLen + n) * i.bytes := Nat.mul_le_mul_right _ h1
    have h3 : 2 * (sLen + n) * i.bytes = (sLen + n) * i.bytes * 2 := by rw [Nat.mul_comm 2, Nat.mul_assoc, Nat.mul_comm 2, ← Nat.mul_assoc]
    omega
  obtain ⟨d, hd, hnk⟩ := hg.desc
  have hlen := hg.len
  have hc := hg.drew
  have hm : (match d with | .int _ => true | _ => false) = false := by
    cases d <;> first | exact absurd rfl (hnk _) | rfl
  simp [Builtin.append_, xu hu, xu hd, xs hz, hlen, hn, hc, xi hi, hzv, h63', h48', Question.forced, ho, Go.newRow, grownCap]
  congr 2
  apply Array.ext'
  simp
end
end Go.Proofs.YtkcgggobcnlnpaaGreatDoor.X

namespace Go.Proofs.YtkcgggobcnlnpaaGreatDoor.X
open Go.RowKit

section
variable {P : Program} {b : Base} {ρ : Ren} {s : St} {w : World}

theorem firstC_ok {size n : Nat} {x x' : Value} {new : List Value} (h : firstC size n x s = some new) (hx : VRel ρ x x') (hw : WRel P b ρ s w) (hs : lenV x = some n ∨ True) :
    ∃ new', LRel ρ new new' ∧ (Builtin.firstCells size n x').run P w = .ok ⟨new'⟩ w ∧ (Builtin.firstCells size n x').run P w.drew = .ok ⟨new'⟩ w.drew := by
  cases hx <;> first | (cases h; done) | skip
  case string bs =>
    injection h with h
    subst h
    refine ⟨_, flats_refl ρ ?_, ?_, ?_⟩
    · unfold bytesV
      generalize takeL n bs.data.toList = l
      induction l with
      | nil => rfl
      | cons _ _ ih => simpa [flats, flat] using ih
    all_goals
      simp only [Builtin.firstCells, Sem.run_pure]
      congr 1
      apply Array.ext'
      unfold bytesV
      rw [takeL_eq]
      simp [ByteArray.data_extract]
  case sstr i m l hl hv =>
    simp only [firstC] at h
    cases hb0 : Nat.blt m FLD with
    | true =>
      rw [hb0] at h
      simp only [cond_true] at h
      rw [sv_old l.sh (Nat.le_of_ble_eq_true hb0)] at hv
      subst hv
      cases hb : Nat.ble n m with
      | false => rw [hb] at h; cases h
      | true =>
        rw [hb] at h
        injection h with h
        subst h
        have hm := Nat.le_of_ble_eq_true hb
        refine ⟨((letS m (symI l.sh)).data.toList.take n).map fun b => .int .u8 b.toNat, ?_, ?_, ?_⟩
        · have hrep : ∀ n, repL n [Value.chan none] = List.replicate n (.chan none) := fun n => by
            induction n with
            | zero => rfl
            | succ n ih => show appL [Value.chan none] (repL n [Value.chan none]) = _; rw [ih]; rfl
          rw [hrep]
          have hlen : ((letS m (symI l.sh)).data.toList.take n).length = n := by
            have := letS_size m (symI l.sh)
            rw [ByteArray.size, ← Array.length_toList] at this
            simp only [List.length_take]; omega
          generalize (letS m (symI l.sh)).data.toList.take n = q at hlen
          subst hlen
          clear hs hb hm hb0
          induction q with
          | nil => exact .nil
          | cons x q ih => exact .cons _ _ _ _ (.anyB _ (UInt8.toNat_lt x)) ih
        all_goals
          simp only [Builtin.firstCells, Sem.run_pure]
          congr 1
          apply Array.ext'
          simp [ByteArray.data_extract]
    | false =>
      rw [hb0] at h
      simp only [cond_false] at h
      obtain ⟨g, hq⟩ := bif_some h
      clear h
      split at hq
      · rename_i vs hvs
        injection hq with hq
        subst hq
        rw [sv_txt l.sh g] at hv
        subst hv
        rw [takeL_eq]
        refine ⟨((tItems m).map fun d => Value.int .u8 (itemB l.sh d).toNat).take n, (itemsV_ok hl hvs).take n, ?_, ?_⟩
        all_goals
          simp only [Builtin.firstCells, Sem.run_pure]
          congr 1
          apply Array.ext'
          simp [ByteArray.data_extract, txtB]
          rfl
      · cases hq
  case sliceN =>
    simp only [firstC] at h
    cases hn : Nat.beq n 0 with
    | false => rw [hn] at h; cases h
    | true =>
      rw [hn] at h
      injection h with h
      subst h
      exact ⟨[], .nil, by simp [Builtin.firstCells], by simp [Builtin.firstCells]⟩
  case sliceE a a' c c' hsp =>
    simp only [firstC] at h
    cases hn : Nat.beq n 0 with
    | false =>
      rw [hn] at h
      exfalso
      simp only [cond_false] at h
      unfold rowOf at h
      cases hr : getRow s a with
      | none => rw [hr] at h; cases h
      | some x => obtain ⟨cs, e, l⟩ := x; have := (getRow_some hr).2; rw [this] at hsp; cases hsp
    | true =>
      rw [hn] at h
      have := Nat.eq_of_beq_eq_true hn
      subst this
      injection h with h
      subst h
      exact ⟨[], .nil, by simp [Builtin.firstCells, loadCells, loadCellsFrom], by simp [Builtin.firstCells, loadCells, loadCellsFrom]⟩
  case slice a a' m c c' ha hc =>
    simp only [firstC] at h
    cases hn : Nat.beq n 0 with
    | false =>
      rw [hn] at h
      simp only [cond_false] at h
      obtain ⟨l', h1, h2, h3⟩ := rowOf_ok h ha hw
      obtain ⟨l2, h4, h5, h6⟩ := rowOf_ok h ha hw.drew
      refine ⟨l', h1, by simpa [Builtin.firstCells] using h3, ?_⟩
      have e : w.drew = { w with drawn := w.drawn + 1 } := rfl
      rw [← e] at h6
      have hsame : (loadCells a' (n * size)).run P w.drew = .ok ⟨l'⟩ w.drew := by
        unfold rowOf at h
        cases hr : getRow s a with
        | none => rw [hr] at h; cases h
        | some x =>
          obtain ⟨cs, e, lo⟩ := x
          rw [hr] at h
          dsimp only at h
          rw [takeL_eq, dropL_eq, lenL_eq] at h
          cases hb : Nat.beq ((cs.drop a.off).take (n * size)).length (n * size) with
          | false => rw [hb] at h; cases h
          | true =>
            obtain ⟨k, cc, fz, hk, rfl, hg, hcc, hrr⟩ := hw.row hr ha
            obtain ⟨g4, g5⟩ := row_sub hrr (n * size) a.off (Nat.eq_of_beq_eq_true hb)
            have g6 := run_cells (P := P) (w := w) hcc g5
            have g7 := run_cells (P := P) (w := w.drew) hcc g5
            rw [g6] at h3
            injection h3 with h3
            rw [g7, h3]
      simpa [Builtin.firstCells] using hsame
    | true =>
      rw [hn] at h
      have := Nat.eq_of_beq_eq_true hn
      subst this
      injection h with h
      subst h
      exact ⟨[], .nil, by simp [Builtin.firstCells, loadCells, loadCellsFrom], by simp [Builtin.firstCells, loadCells, loadCellsFrom]⟩

theorem isInf_INF : isInf INF = true := by decide
/-- A new row of an open capacity. -/
theorem grown_row (hw : WRel P b ρ s w) {elem : TypeId} {size cap : Nat} {cs cs' : List Value} {need : Nat} (hz : szT P elem = some size) (hr : LRel ρ cs cs') (hl : cs.length = need * size) (zs : Array Value) (hzs : zs.size = (cap - need) * size) (hc : need ≤ cap) :
    Ok P b ρ s (ρ.upd s.next ⟨w.heap.size, 0, cap⟩) (newS cs elem true s) (w.alloc (.cells (⟨cs'⟩ ++ zs) elem)) ∧
    VRel (ρ.upd s.next ⟨w.heap.size, 0, cap⟩) (.slice (some ⟨s.next, 0, none⟩) need INF) (.slice (some ⟨w.heap.size, 0, none⟩) need cap) := by
  refine ⟨hw.new cap fun ρ' hle hid => ⟨_, (0, 0), rfl, fun j _ h => by simp at h, ?_, fun j v hj => ?_, fun _ m hm => ?_⟩, .slice _ _ _ _ _ ⟨rfl, _, upd_self _ _ _, by simp⟩ ⟨hc, ?_⟩⟩
  · have : (⟨cs'⟩ ++ zs : Array Value).size = cs'.length + zs.size := Array.size_append
    rw [this, ← hr.length]
    show 0 + cs.length ≤ _
    omega
  · obtain ⟨v', h1, h2⟩ := (hr.mono hle).get hj
    refine ⟨v', ?_, h2⟩
    have hlt := (List.getElem?_eq_some_iff.1 h1).1
    rw [Nat.zero_add, Array.getElem?_append_left (by simpa using hlt)]
    simpa using h1
  · rw [hz] at hm
    injection hm with hm
    subst hm
    have h1 : (⟨cs'⟩ ++ zs : Array Value).size = cs'.length + zs.size := Array.size_append
    have h2 : (cap - need) * size + need * size = cap * size := by rw [← Nat.add_mul]; congr 1; omega
    have h3 := hr.length
    refine ⟨by rw [hl]; exact Nat.mul_le_mul_right _ hc, ?_⟩
    rw [h1]
    show 0 + cap * size ≤ _
    omega
  · rw [if_pos isInf_INF]
    exact ⟨Nat.le_refl _, _, upd_self _ _ _, by simp⟩
end
end Go.Proofs.YtkcgggobcnlnpaaGreatDoor.X

namespace Go.Proofs.YtkcgggobcnlnpaaGreatDoor.X
open Go.RowKit

section
variable {P : Program} {b : Base} {ρ : Ren} {s : St} {w : World}

/-- It may turn memory. -/
def EOk (P : Program) (b : Base) (ρ : Ren) (s s' : St) (w : World) (v : Value) (x : Sem Value) : Prop := ∃ ρ' w' v', Ok P b ρ s ρ' s' w' ∧ VRel ρ' v v' ∧ x.run P w = .ok v' w'
theorem EOk.of_q {v : Value} {x : Sem Value} (hw : WRel P b ρ s w) (h : QOk P ρ w v x) : EOk P b ρ s s w v x := by
  obtain ⟨v', h1, h2⟩ := h
  exact ⟨ρ, w, v', .refl hw, h1, h2⟩

theorem zeroCells_size {z : Value} {n size : Nat} (h : z.cells.size = size) : (Builtin.zeroCells z.cells n).size = n * size := by
  simp [Builtin.zeroCells, h]

/-- An append that puts cells behind a slice: what append_ does with them is given. -/
theorem aAppend_ok {elem : TypeId} {size by_ n sLen sCap : Nat} {base : Option Addr} {sv' v zz : Value} {new new' : List Value} {s' : St} {X : Value → Sem Value} (h : aAppend b.G elem size by_ base sLen sCap new n s = .ok v s')
    (hb : VRel ρ (.slice base sLen sCap) sv') (hn : LRel ρ new new') (hw : WRel P b ρ s w) (hz : szT P elem = some size) (hpos : 0 < size) (hzz : zz.cells.size = size)
    (hin : ∀ {base' : Option Addr} {cap' : Nat}, isInf sCap = true ∨ sLen + n ≤ sCap → sv' = .slice base' sLen cap' → sLen + n ≤ cap' → (X sv').run P w = Result.andThen (((match base' with | some a => storeCells (a.add (sLen * size)) new' | none => pure ()) : Sem Unit).run P w) fun _ w' => .ok (.slice base' (sLen + n) cap') w')
    (hout : ∀ {base' : Option Addr} {cap' : Nat} {old' : List Value}, sv' = .slice base' sLen cap' → cap' < sLen + n → (sLen + n) * by_ * 2 ≤ 2 ^ 40 → (Builtin.firstCells size sLen (.slice base' sLen cap')).run P w.drew = .ok ⟨old'⟩ w.drew →
      (X sv').run P w = .ok (.slice (some ⟨w.heap.size, 0, none⟩) (sLen + n) (grownCap w (sLen + n) cap' elem)) (w.drew.alloc (.cells (⟨old'⟩ ++ ⟨new'⟩ ++ Builtin.zeroCells zz.cells (grownCap w (sLen + n) cap' elem - (sLen + n))) elem))) :
    EOk P b ρ s s' w v (X sv') := by
  unfold aAppend at h
  cases hc0 : (Nat.ble ((sLen + n) * by_ * 2) (2 ^ 40) && (Nat.beq (lenL new) (n * size) && cellsOk new)) with
  | false => rw [hc0] at h; cases h
  | true =>
    rw [hc0] at h
    simp only [Bool.not_true, cond_false] at h
    simp only [Bool.and_eq_true, lenL_eq] at hc0
    obtain ⟨hby, hlen, hcok⟩ := hc0
    have hby := Nat.le_of_ble_eq_true hby
    have hlen := Nat.eq_of_beq_eq_true hlen
    -- a new row
    have grow : ∀ {base' : Option Addr} {cap' : Nat} {old old' : List Value}, sv' = .slice base' sLen cap' → cap' < sLen + n → (Builtin.firstCells size sLen (.slice base' sLen cap')).run P w.drew = .ok ⟨old'⟩ w.drew → LRel ρ old old' → old.length = sLen * size →
        ∀ {s0 : St}, WRel P b ρ s0 w → s0.next = s.next → (∀ i, i < s.next → ρ i = none → s0.heap.get i = s.heap.get i) → v = .slice (some ⟨s.next, 0, none⟩) (sLen + n) INF → s' = newS (old ++ new) elem true s0 → EOk P b ρ s s' w v (X sv') := by
      intro base' cap' old old' hsv hlt hf ho hol s0 hw0 hnx hpd hv hs'
      have hr := hout hsv hlt hby hf
      have hlr : LRel ρ (old ++ new) (old' ++ new') := ho.append hn
      have hll : (old ++ new).length = (sLen + n) * size := by rw [List.length_append, hol, hlen, Nat.add_mul]
      obtain ⟨g1, g2⟩ := grown_row hw0.drew hz hlr hll (Builtin.zeroCells zz.cells (grownCap w (sLen + n) cap' elem - (sLen + n))) (zeroCells_size hzz) (growCap_ge w (sLen + n) cap' elem)
      have e1 : (⟨old' ++ new'⟩ : Array Value) = ⟨old'⟩ ++ ⟨new'⟩ := by apply Array.ext'; simp
      rw [e1] at g1
      rw [hnx] at g1 g2
      subst hv; subst hs'
      refine ⟨_, _, _, ⟨fun i hi => g1.ext i (by rw [hnx]; exact hi), by have := g1.next; rw [hnx] at this; exact this, fun i hi hn => (g1.pend i (by rw [hnx]; exact hi) hn).trans (hpd i hi hn), g1.rel⟩, g2, hr⟩
    have fr_same : ∀ {x : Value} {l : List Value}, (Builtin.firstCells size sLen x).run P w.drew = .ok ⟨l⟩ w.drew → (Builtin.firstCells size sLen x).run P w.drew = .ok ⟨l⟩ w.drew := fun h => h
    cases hb with
    | sliceN _ _ =>
      dsimp only at h
      obtain ⟨h1, h⟩ := bif_ok h
      simp only [Bool.and_eq_true] at h1
      have e1 := Nat.eq_of_beq_eq_true h1.1
      have e2 := Nat.eq_of_beq_eq_true h1.2
      subst e1; subst e2
      cases hn0 : Nat.beq n 0 with
      | true =>
        rw [hn0] at h
        have := Nat.eq_of_beq_eq_true hn0
        subst this
        injection h with e1 e2
        subst e1; subst e2
        have hr := hin (.inr (Nat.le_refl _)) rfl (Nat.le_refl _)
        exact ⟨ρ, w, _, .refl hw, .sliceN _ _, hr⟩
      | false =>
        rw [hn0] at h
        simp only [cond_false] at h
        have hn0 : n ≠ 0 := by rintro rfl; cases hn0
        obtain ⟨rfl, rfl⟩ := sliceOf_ok h
        exact grow (old := []) (old' := []) rfl (by omega) (by simp [Builtin.firstCells]) .nil (by simp) hw rfl (fun _ _ _ => rfl) (by rw [Nat.zero_add]) rfl
    | sliceE a a' c c' hsp =>
      exfalso
      dsimp only at h
      cases hr : getRow s a with
      | none => rw [hr] at h; cases h
      | some x => obtain ⟨cs, e, l⟩ := x; have := (getRow_some hr).2; rw [this] at hsp; cases hsp
    | slice a a' _ _ cap' ha hc =>
      dsimp only at h
      cases hr : getRow s a with
      | none => rw [hr] at h; cases h
      | some x =>
        obtain ⟨cs, e, lo⟩ := x
        rw [hr] at h
        dsimp only at h
        cases hg : (Nat.ble b.G a.block && (Nat.beq e elem && Nat.ble (a.off + sLen * size) (lenL cs))) with
        | false => rw [hg] at h; cases h
        | true =>
          rw [hg] at h
          simp only [Bool.not_true, cond_false] at h
          simp only [Bool.and_eq_true, lenL_eq] at hg
          obtain ⟨hG, he, hat⟩ := hg
          have hG := Nat.le_of_ble_eq_true hG
          have he := Nat.eq_of_beq_eq_true he
          have hat := Nat.le_of_ble_eq_true hat
          subst he
          -- in place, where it is known to fit
          have inplace : sLen + n ≤ cap' → isInf sCap = true ∨ sLen + n ≤ sCap → a.off + sLen * size + n * size ≤ cs.length → VRel ρ (.slice (some a) (sLen + n) sCap) (.slice (some a') (sLen + n) cap') →
              v = .slice (some a) (sLen + n) sCap → s' = setRow s a.block (appL (takeL (a.off + sLen * size) cs) (appL new (dropL (a.off + sLen * size + n * size) cs))) e lo → EOk P b ρ s s' w v (X (.slice (some a') sLen cap')) := by
            intro hfit hi hst hv e1 e2
            subst e1; subst e2
            rw [← hlen, splice_eq]
            obtain ⟨w', g1, g2⟩ := hw.splice hr ha hG hn hcok (a.off + sLen * size) (by omega) (sLen * size) rfl
            have hrun := hin hi rfl hfit
            dsimp only at hrun
            rw [g2] at hrun
            exact ⟨ρ, w', _, g1, hv, hrun⟩
          -- the old cells
          have hsub : ((cs.drop a.off).take (sLen * size)).length = sLen * size := by rw [List.length_take, List.length_drop]; omega
          obtain ⟨k, c, fz, hk, ha', hgk, hcc, hrr⟩ := hw.row hr ha
          obtain ⟨o1, o2⟩ := row_sub hrr (sLen * size) a.off hsub
          have hold : (Builtin.firstCells size sLen (.slice (some a') sLen cap')).run P w.drew = .ok ⟨(c.toList.drop (k.sh + a.off)).take (sLen * size)⟩ w.drew := by
            subst ha'
            exact run_cells (w := w.drew) hcc o2
          cases hi : isInf sCap with
          | true =>
            rw [hi] at h
            simp only [cond_true] at h
            cases hg2 : (lo && (Nat.beq a.off ((INF - sCap) * size) && Nat.ble sCap INF)) with
            | false => rw [hg2] at h; cases h
            | true =>
              rw [hg2] at h
              simp only [Bool.not_true, cond_false] at h
              simp only [Bool.and_eq_true] at hg2
              obtain ⟨hlo, hoff, hle⟩ := hg2
              have hoff := Nat.eq_of_beq_eq_true hoff
              have hle := Nat.le_of_ble_eq_true hle
              have hc2 := hc.2
              rw [if_pos hi] at hc2
              obtain ⟨_, k', hk', hcap⟩ := hc2
              rw [hk] at hk'
              injection hk' with hk'
              subst hk'
              have hroom := hrr.2.2.2 hlo size hz
              cases hst : Nat.ble (a.off + sLen * size + n * size) (lenL cs) with
              | true =>
                rw [hst] at h
                simp only [cond_true] at h
                injection h with e1 e2
                rw [lenL_eq] at hst
                have hst := Nat.le_of_ble_eq_true hst
                have hfit : sLen + n ≤ cap' := by
                  have h5 : ((INF - sCap) + (sLen + n)) * size ≤ k.cap * size := by
                    have : (INF - sCap) * size + (sLen * size + n * size) = ((INF - sCap) + (sLen + n)) * size := by rw [Nat.add_mul, Nat.add_mul]
                    rw [← this, ← hoff]
                    omega
                  have h6 := Nat.le_of_mul_le_mul_right h5 hpos
                  omega
                exact inplace hfit (.inl hi) hst (.slice _ _ _ _ _ ha ⟨hfit, by rw [if_pos hi]; exact ⟨hle, k, hk, hcap⟩⟩) e1.symm e2.symm
              | false =>
                rw [hst] at h
                simp only [cond_false] at h
                obtain ⟨hv, hs'⟩ := sliceOf_ok h
                rw [appL_eq, takeL_eq, dropL_eq] at hs'
                by_cases hfit : sLen + n ≤ cap'
                · -- in place: the row goes on under a new id
                  subst hv; subst hs'; subst ha'
                  have hrun := hin (.inl hi) rfl hfit
                  dsimp only at hrun
                  rw [addr_add] at hrun
                  have hroom2 : k.sh + a.off + cap' * size ≤ c.size := by
                    have h7 := hroom.2
                    rw [hcap, Nat.add_mul] at h7
                    omega
                  have hroom3 : (sLen + n) * size ≤ cap' * size := Nat.mul_le_mul_right _ hfit
                  rw [Nat.add_mul] at hroom3
                  have hnl := hn.length
                  have hst2 := run_storeRow (P := P) k.blk (k.sh + a.off + sLen * size) e fz new' 0 c w hcc hrr.1 (by omega) (cellsOk_rel hn hcok)
                  rw [Nat.add_zero] at hst2
                  rw [hst2] at hrun
                  have hcl : c.toList.length = c.size := Array.length_toList
                  have hsplen : k.sh + a.off + sLen * size + new'.length ≤ c.toList.length := by omega
                  have hmv := hw.move (i := a.block) hgk (by simp) hk hG (k.sh + a.off) cap' (o1 := .row ((cs.drop a.off).take (sLen * size) ++ new) e true) (o' := .cells ⟨Go.Proofs.YtkcgggobcnlnpaaGreatDoor.X.splice c.toList (k.sh + a.off + sLen * size) new'⟩ e fz) fun ρ' hle' hid => by
                    refine ⟨_, fz, rfl, fun j hj => hrr.1 j (by simpa [splice_length hsplen] using hj), ?_, fun j v hj => ?_, fun _ m hm => ?_⟩
                    · have : (⟨Go.Proofs.YtkcgggobcnlnpaaGreatDoor.X.splice c.toList (k.sh + a.off + sLen * size) new'⟩ : Array Value).size = c.toList.length := splice_length hsplen
                      rw [this, List.length_append, hsub]
                      dsimp only
                      omega
                    · have hg3 : (⟨Go.Proofs.YtkcgggobcnlnpaaGreatDoor.X.splice c.toList (k.sh + a.off + sLen * size) new'⟩ : Array Value)[k.sh + a.off + j]? = (Go.Proofs.YtkcgggobcnlnpaaGreatDoor.X.splice c.toList (k.sh + a.off + sLen * size) new')[k.sh + a.off + j]? := by simp
                      dsimp only
                      rw [hg3, splice_get hsplen]
                      by_cases hj1 : j < sLen * size
                      · rw [List.getElem?_append_left (by rw [hsub]; exact hj1), List.getElem?_take, if_pos hj1, List.getElem?_drop] at hj
                        rw [if_pos (by omega)]
                        obtain ⟨v', g3, g4⟩ := hrr.2.2.1 _ _ hj
                        exact ⟨v', by simpa [Nat.add_assoc] using g3, g4.mono hle'⟩
                      · rw [List.getElem?_append_right (by rw [hsub]; omega), hsub] at hj
                        obtain ⟨v', g3, g4⟩ := hn.get hj
                        have hjl := (List.getElem?_eq_some_iff.1 g3).1
                        rw [if_neg (by omega), if_pos (by omega)]
                        exact ⟨v', by rw [show k.sh + a.off + j - (k.sh + a.off + sLen * size) = j - sLen * size by omega]; exact g3, g4.mono hle'⟩
                    · rw [hz] at hm
                      injection hm with hm
                      subst hm
                      have : (⟨Go.Proofs.YtkcgggobcnlnpaaGreatDoor.X.splice c.toList (k.sh + a.off + sLen * size) new'⟩ : Array Value).size = c.toList.length := splice_length hsplen
                      rw [this, List.length_append, hsub]
                      dsimp only
                      refine ⟨by omega, hroom2⟩
                  refine ⟨_, _, _, hmv, ?_, hrun⟩
                  refine .slice _ _ _ _ _ ⟨rfl, _, upd_self _ _ _, by simp⟩ ⟨hfit, ?_⟩
                  rw [if_pos isInf_INF]
                  exact ⟨Nat.le_refl _, _, upd_self _ _ _, by simp⟩
                · have hai : a.block < s.next := hw.dom _ _ hk
                  exact grow rfl (by omega) hold o1 hsub (hw.kill hai) rfl (fun i _ hn => by
                    dsimp only
                    rw [Tr.get_set, if_neg]
                    rintro rfl
                    rw [hk] at hn; cases hn) hv hs'
          | false =>
            rw [hi] at h
            simp only [cond_false] at h
            have hc2 := hc.2
            rw [if_neg (by rw [hi]; simp)] at hc2
            subst hc2
            cases hfb : Nat.ble (sLen + n) cap' with
            | true =>
              rw [hfb] at h
              simp only [cond_true] at h
              obtain ⟨hst, h⟩ := bif_ok h
              injection h with e1 e2
              rw [lenL_eq] at hst
              have hfit := Nat.le_of_ble_eq_true hfb
              exact inplace hfit (.inr hfit) (Nat.le_of_ble_eq_true hst) (.slice _ _ _ _ _ ha ⟨hfit, by rw [if_neg (by rw [hi]; simp)]⟩) e1.symm e2.symm
            | false =>
              rw [hfb] at h
              simp only [cond_false] at h
              obtain ⟨hv, hs'⟩ := sliceOf_ok h
              rw [appL_eq, takeL_eq, dropL_eq] at hs'
              have hnf : ¬ sLen + n ≤ cap' := fun h => by rw [Nat.ble_eq_true_of_le h] at hfb; cases hfb
              exact grow rfl (by omega) hold o1 hsub hw rfl (fun _ _ _ => rfl) hv hs'
end
end Go.Proofs.YtkcgggobcnlnpaaGreatDoor.X

namespace Go.Proofs.YtkcgggobcnlnpaaGreatDoor.X
open Go.RowKit

section
variable {P : Program} {b : Base} {ρ : Ren} {s : St} {w : World}

theorem lenV_ok {x x' : Value} {n : Nat} (h : lenV x = some n) (hx : VRel ρ x x') (w : World) : (Builtin.lenOf x').run P w = .ok n w := by
  cases hx <;> first | (cases h; done) | skip
  case sstr i m l hl hv =>
    obtain ⟨bs, e, hs⟩ := lenC_ok l.sh h
    rw [e] at hv
    subst hv
    simp [Builtin.lenOf, hs]
  all_goals
    injection h with h
    subst h
    simp [Builtin.lenOf]

theorem doAppend_ok {ts : Array TypeId} {ty : TypeId} {args args' : List Value} {v : Value} {s' : St} (h : doAppend P b.G ts.toList args s = .ok v s') (ha : LRel ρ args args') (hw : WRel P b ρ s w) :
    EOk P b ρ s s' w v (Builtin.append_ ts ty ⟨args'⟩) := by
  obtain ⟨ts⟩ := ts
  unfold doAppend at h
  rcases ts with _ | ⟨t, _ | ⟨xt, _ | ⟨_, _⟩⟩⟩ <;> first | (cases h; done) | skip
  cases ha with
  | nil => cases h
  | cons x0 x0' l l' hx0 hl =>
    cases hl with
    | nil => cases x0 <;> cases h
    | cons x x' l2 l2' hx hl2 =>
      cases hl2 with
      | cons _ _ _ _ _ _ => cases x0 <;> cases h
      | nil =>
        have hsl : ∃ base sLen sCap, x0 = .slice base sLen sCap := by cases x0 <;> first | (cases h; done) | exact ⟨_, _, _, rfl⟩
        obtain ⟨base, sLen, sCap, rfl⟩ := hsl
        dsimp only at h
        cases hu : P.underlying t with
        | none => rw [hu] at h; cases h
        | some d =>
          rw [hu] at h
          cases d <;> first | (cases h; done) | skip
          rename_i elem
          cases hxu : P.underlying xt with
          | none => rw [hxu] at h; cases h
          | some xd =>
            rw [hxu] at h
            dsimp only at h
            obtain ⟨size, hz, h⟩ := ofO_ok h
            obtain ⟨by_, hby, h⟩ := ofO_ok h
            cases hpos : (Nat.blt 0 size && Nat.blt 0 by_) with
            | false => rw [hpos] at h; cases h
            | true =>
              rw [hpos] at h
              simp only [Bool.not_true, cond_false] at h
              simp only [Bool.and_eq_true] at hpos
              have hp1 : 0 < size := Nat.le_of_ble_eq_true hpos.1
              have hp2 : 0 < by_ := Nat.le_of_ble_eq_true hpos.2
              obtain ⟨zz, hzz, h⟩ := ofO_ok h
              cases hzl : Nat.beq (lenL (cellsOf zz)) size with
              | false => rw [hzl] at h; cases h
              | true =>
                rw [hzl] at h
                simp only [Bool.not_true, cond_false] at h
                have hzl := Nat.eq_of_beq_eq_true hzl
                rw [lenL_eq] at hzl
                obtain ⟨iz, hiz, hizz, hzf⟩ := zeroT_some hzz
                have hzr : LRel ρ (cellsOf zz) zz.cells.toList := cells_rel (flat_refl ρ hzf)
                have hzs : zz.cells.size = size := by rw [← hzl, hzr.length]; exact Array.length_toList.symm
                by_cases hint : ∃ k, xd = .int k
                · obtain ⟨k, rfl⟩ := hint
                  have hxi : ∃ kn m, x = .int kn m := by cases x <;> first | (cases h; done) | exact ⟨_, _, rfl⟩
                  obtain ⟨kn, m, rfl⟩ := hxi
                  cases hx
                  dsimp only at h
                  obtain ⟨h1, h⟩ := bif_ok h
                  simp only [Bool.and_eq_true, decide_eq_true_eq, Bool.not_eq_true'] at h1
                  obtain ⟨⟨g1, g2⟩, g3, g4, g5⟩ := h1
                  have g2 := Nat.le_of_ble_eq_true g2
                  have g3 := Nat.le_of_ble_eq_true g3
                  have g4 : sCap < sLen + m.toNat := Nat.le_of_ble_eq_true g4
                  have hm : (m : Int) = (m.toNat : Int) := by omega
                  have hnew : LRel ρ (repL m.toNat (cellsOf zz)) (Builtin.zeroCells zz.cells m.toNat).toList := by
                    have := made_rep zz.cells m.toNat
                    unfold Builtin.zeroCells
                    rw [this]
                    exact repL_rel hzr _
                  obtain ⟨ib, hib, rfl⟩ := bytesT_some hby
                  rw [hiz] at hib
                  injection hib with hib
                  subst hib
                  obtain ⟨is, his, hsz⟩ := szT_size hz
                  rw [hiz] at his
                  injection his with his
                  subst his
                  refine aAppend_ok (zz := zz) (X := fun sv => Builtin.append_ #[t, xt] ty #[sv, .int kn m]) h hx0 hnew hw hz hp1 hzs ?_ ?_
                  · intro base' cap' hor hsv hfit
                    exfalso
                    rcases hor with hi | hle
                    · rw [hi] at g5; cases g5
                    · omega
                  · intro base' cap' old' hsv hlt hb hold
                    have hle : sLen + m.toNat ≤ (sLen + m.toNat) * iz.bytes := Nat.le_mul_of_pos_right _ hp2
                    subst hsv
                    have hfit : Builtin.nextslicecap (sLen + m.toNat) cap' * iz.bytes ≤ 281474976710656 := by
                      have h1 := nextslicecap_le hlt
                      have h2 : Builtin.nextslicecap (sLen + m.toNat) cap' * iz.bytes ≤ 2 * (sLen + m.toNat) * iz.bytes := Nat.mul_le_mul_right _ h1
                      have h3 : 2 * (sLen + m.toNat) * iz.bytes = (sLen + m.toNat) * iz.bytes * 2 := by rw [Nat.mul_comm 2, Nat.mul_assoc, Nat.mul_comm 2, ← Nat.mul_assoc]
                      omega
                    have hrun := Lib.run_append_grow_zeros (P := P) w t xt ty elem iz zz kn k hu hxu hiz hizz base' sLen cap' old' (by rw [hsz]; exact hold) m.toNat (by omega) (by rw [hsz]; exact hp1) hlt (by omega) (by omega) hfit
                    rw [← hm] at hrun
                    exact hrun
                · have hnk : ∀ k, xd ≠ .int k := fun k e => hint ⟨k, e⟩
                  have h' : (ofO (lenV x) 61 fun n => ofO (firstC size n x s) 62 fun new => aAppend b.G elem size by_ base sLen sCap new n s) = .ok v s' := by
                    cases xd <;> first | exact absurd rfl (hnk _) | exact h
                  obtain ⟨n, hn, h⟩ := ofO_ok h'
                  obtain ⟨new, hnew, h⟩ := ofO_ok h
                  obtain ⟨new', f1, f2, f3⟩ := firstC_ok hnew hx hw (.inr trivial)
                  have hgv : Given P w size n xt x' new' := ⟨⟨xd, hxu, hnk⟩, fun w => lenV_ok hn hx w, f2, f3⟩
                  refine aAppend_ok (zz := zz) (X := fun sv => Builtin.append_ #[t, xt] ty #[sv, x']) h hx0 f1 hw hz hp1 hzs ?_ ?_
                  · intro base' cap' _ hsv hfit
                    subst hsv
                    exact run_append_in hu hz hgv hfit
                  · intro base' cap' old' hsv hlt hb hold
                    subst hsv
                    exact run_append_out hu hz hzz hgv hby hp2 hb hlt hold

theorem doCopy_ok {ts : Array TypeId} {ty : TypeId} {args args' : List Value} {v : Value} {s' : St} (h : doCopy P b.G ts.toList args s = .ok v s') (ha : LRel ρ args args') (hw : WRel P b ρ s w) :
    EOk P b ρ s s' w v (Builtin.copy_ ts ty ⟨args'⟩) := by
  obtain ⟨ts⟩ := ts
  unfold doCopy at h
  rcases ts with _ | ⟨t, r⟩ <;> first | (cases h; done) | skip
  cases ha with
  | nil => cases h
  | cons x0 x0' l l' hx0 hl =>
    cases hl with
    | nil => cases x0 <;> cases h
    | cons x x' l2 l2' hx hl2 =>
      cases hl2 with
      | cons _ _ _ _ _ _ => cases x0 <;> cases h
      | nil =>
        have hsl : ∃ base sLen sCap, x0 = .slice base sLen sCap := by cases x0 <;> first | (cases h; done) | exact ⟨_, _, _, rfl⟩
        obtain ⟨base, sLen, sCap, rfl⟩ := hsl
        dsimp only at h
        cases hu : P.underlying t with
        | none => rw [hu] at h; cases h
        | some d =>
          rw [hu] at h
          cases d <;> first | (cases h; done) | skip
          rename_i elem
          dsimp only at h
          obtain ⟨size, hz, h⟩ := ofO_ok h
          obtain ⟨m, hm, h⟩ := ofO_ok h
          obtain ⟨new, hnew, h⟩ := ofO_ok h
          obtain ⟨new', f1, f2, _⟩ := firstC_ok hnew hx hw (.inr trivial)
          have hlen := lenV_ok (P := P) hm hx w
          cases hx0 with
          | sliceN _ _ =>
            injection h with e1 e2
            subst e1; subst e2
            exact ⟨ρ, w, _, .refl hw, .int _ _, by simp [Builtin.copy_, xu hu, hlen, xs hz, f2, goInt]⟩
          | sliceE a a' c c' hsp =>
            exfalso
            dsimp only at h
            cases hr : getRow s a with
            | none => rw [hr] at h; cases h
            | some x => obtain ⟨cs, e, l⟩ := x; have := (getRow_some hr).2; rw [this] at hsp; cases hsp
          | slice a a' _ _ cap' ha hc =>
            dsimp only at h
            cases hr : getRow s a with
            | none => rw [hr] at h; cases h
            | some x =>
              obtain ⟨cs, e, lo⟩ := x
              rw [hr] at h
              dsimp only at h
              obtain ⟨h1, h⟩ := bif_ok h
              injection h with e1 e2
              subst e1; subst e2
              simp only [Bool.and_eq_true, lenL_eq] at h1
              obtain ⟨⟨⟨g1, g2⟩, g4⟩, g3⟩ := h1
              have g3 := Nat.le_of_ble_eq_true g3
              have g4 := Nat.eq_of_beq_eq_true g4
              rw [← g4] at g3 ⊢
              rw [splice_eq]
              obtain ⟨w', k1, k2⟩ := hw.splice hr ha (Nat.le_of_ble_eq_true g1) f1 g2 a.off g3 0 rfl
              have k2' : (storeCells a' new').run P w = .ok () w' := by simpa [Addr.add] using k2
              exact ⟨ρ, w', _, k1, .int _ _, by simp [Builtin.copy_, xu hu, hlen, xs hz, f2, goInt, k2']⟩
theorem doClear_ok {ts : Array TypeId} {ty : TypeId} {args args' : List Value} {v : Value} {s' : St} (h : doClear P b.G ts.toList args s = .ok v s') (ha : LRel ρ args args') (hw : WRel P b ρ s w) :
    EOk P b ρ s s' w v (Builtin.clear_ ts ty ⟨args'⟩) := by
  have vt : VRel ρ (.tuple #[]) (.tuple #[]) := .tuple _ _ .nil
  obtain ⟨ts⟩ := ts
  unfold doClear at h
  rcases ts with _ | ⟨t, r⟩ <;> first | (cases h; done) | skip
  cases ha with
  | nil => cases h
  | cons x0 x0' l l' hx0 hl =>
    cases hl with
    | cons _ _ _ _ _ _ => cases x0 <;> cases h
    | nil =>
      have hsl : ∃ base sLen sCap, x0 = .slice base sLen sCap := by cases x0 <;> first | (cases h; done) | exact ⟨_, _, _, rfl⟩
      obtain ⟨base, sLen, sCap, rfl⟩ := hsl
      dsimp only at h
      cases hu : P.underlying t with
      | none => rw [hu] at h; cases h
      | some d =>
        rw [hu] at h
        cases d <;> first | (cases h; done) | skip
        rename_i elem
        cases hx0 with
        | sliceN _ _ =>
          dsimp only at h
          obtain ⟨h1, h⟩ := bif_ok h
          have := Nat.eq_of_beq_eq_true h1
          subst this
          injection h with e1 e2
          subst e1; subst e2
          exact ⟨ρ, w, _, .refl hw, vt, by simp [Builtin.clear_, xu hu]⟩
        | sliceE a a' c c' hsp =>
          injection h with e1 e2
          subst e1; subst e2
          exact ⟨ρ, w, _, .refl hw, vt, by simp [Builtin.clear_, xu hu]⟩
        | slice a a' _ _ cap' ha hc =>
          dsimp only at h
          cases hn0 : Nat.beq sLen 0 with
          | true =>
            rw [hn0] at h
            have := Nat.eq_of_beq_eq_true hn0
            subst this
            injection h with e1 e2
            subst e1; subst e2
            exact ⟨ρ, w, _, .refl hw, vt, by simp [Builtin.clear_, xu hu]⟩
          | false =>
            rw [hn0] at h
            simp only [cond_false] at h
            have hne : sLen ≠ 0 := by rintro rfl; cases hn0
            obtain ⟨size, hz, h⟩ := ofO_ok h
            obtain ⟨z, hzz, h⟩ := ofO_ok h
            cases hr : getRow s a with
            | none => rw [hr] at h; cases h
            | some x =>
              obtain ⟨cs, e, lo⟩ := x
              rw [hr] at h
              dsimp only at h
              obtain ⟨h1, h⟩ := bif_ok h
              injection h with e1 e2
              subst e1; subst e2
              simp only [Bool.and_eq_true, lenL_eq] at h1
              obtain ⟨⟨g1, ⟨g2, g4⟩, g5⟩, g3⟩ := h1
              have g3 := Nat.le_of_ble_eq_true g3
              have g4 := Nat.eq_of_beq_eq_true g4
              obtain ⟨hzv, hzf⟩ := xz hzz w
              have hzr : LRel ρ (cellsOf z) z.cells.toList := cells_rel (flat_refl ρ hzf)
              have hrl : (repL sLen (cellsOf z)).length = sLen * size := by rw [repL_length, g4]
              have hnew : LRel ρ (repL sLen (cellsOf z)) (Builtin.zeroCells z.cells sLen).toList := by
                have := made_rep z.cells sLen
                unfold Builtin.zeroCells
                rw [this]
                exact repL_rel hzr _
              rw [← hrl] at g3 ⊢
              rw [splice_eq]
              obtain ⟨w', k1, k2⟩ := hw.splice hr ha (Nat.le_of_ble_eq_true g1) hnew g5 a.off g3 0 rfl
              have k2' : (storeCells a' (Builtin.zeroCells z.cells sLen).toList).run P w = .ok () w' := by simpa [Addr.add] using k2
              refine ⟨ρ, w', _, k1, vt, ?_⟩
              obtain ⟨m, rfl⟩ : ∃ m, sLen = m + 1 := ⟨sLen - 1, by omega⟩
              simp [Builtin.clear_, xu hu, hzv, k2']
end
end Go.Proofs.YtkcgggobcnlnpaaGreatDoor.X
