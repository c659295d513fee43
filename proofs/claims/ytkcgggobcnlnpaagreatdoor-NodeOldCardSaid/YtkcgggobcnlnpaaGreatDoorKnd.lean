/- A runner for closed calls, part 4: Ye Yf Yg. -/
import Derived.Test.YtkcgggobcnlnpaaGreatDoorKnc
import Derived.Laws.Tables
import Derived.Laws.BytesString
import Derived.Great.BuildSlice
namespace Go.Proofs.YtkcgggobcnlnpaaGreatDoor.X
open Go.RowKit

section
variable {P : Program} {b : Base} {ρ : Ren} {s : St} {w : World}

theorem itemB_toNat (V d : Nat) (h : ¬ d < 256) : (itemB V d).toNat = clampN 97 122 (fldQ d V / 2 ^ 0 % 2 ^ 8) := by
  unfold itemB
  rw [if_neg h]
  have g := clamp_in (lo := 97) (hi := 122) (by omega) (fldQ d V / 2 ^ 0 % 2 ^ 8)
  rw [UInt8.toNat_ofNat']
  omega
theorem itemV_ok {i d : Nat} {l : Loc} {v : Value} (h : itemV i d = some v) (hl : ρ i = some l) : VRel ρ v (.int .u8 (itemB l.sh d).toNat) := by
  unfold itemV at h
  cases hb : Nat.blt d 256 with
  | true =>
    rw [hb] at h
    injection h with h
    subst h
    have hd : d < 256 := Nat.le_of_ble_eq_true hb
    have : (itemB l.sh d).toNat = d := by
      unfold itemB
      rw [if_pos hd, UInt8.toNat_ofNat']
      omega
    rw [this]
    exact .int _ _
  | false =>
    rw [hb] at h
    have hd : ¬ d < 256 := fun hh => by rw [show Nat.blt d 256 = true from Nat.ble_eq_true_of_le hh] at hb; cases hb
    simp only [cond_false] at h
    obtain ⟨n, rfl, f0, f1, f2, f3, f4, f5, f6⟩ := mkN_ok h
    refine .sstr i n l _ hl ?_
    have e := sv_fld l.sh f0
    rw [f1, f2, f3, f4, f5, f6] at e
    exact (congrArg (fun z : Nat => Value.int .u8 (z : Int)) (itemB_toNat l.sh d hd)).trans e.symm
theorem itemsV_ok {i : Nat} {l : Loc} (hl : ρ i = some l) : ∀ {ds : List Nat} {vs : List Value}, itemsV i ds = some vs → LRel ρ vs (ds.map fun d => .int .u8 (itemB l.sh d).toNat)
  | [], vs, h => by
    have h : some [] = some vs := h
    injection h with h
    subst h
    exact .nil
  | d :: ds, vs, h => by
    have h : (match itemV i d, itemsV i ds with | some v, some r => some (v :: r) | _, _ => none) = some vs := h
    split at h
    · rename_i v r h1 h2
      injection h with h
      subst h
      exact .cons _ _ _ _ (itemV_ok h1 hl) (itemsV_ok hl h2)
    · cases h
theorem lenC_ok {n m : Nat} (V : Nat) (h : lenC n = some m) : ∃ bs : ByteArray, svV n V = .string bs ∧ bs.size = m := by
  unfold lenC at h
  cases hb : Nat.blt n FLD with
  | true =>
    rw [hb] at h
    injection h with h
    subst h
    exact ⟨_, sv_old V (Nat.le_of_ble_eq_true hb), letS_size _ _⟩
  | false =>
    rw [hb] at h
    obtain ⟨g, h⟩ := bif_some h
    injection h with h
    subst h
    refine ⟨_, sv_txt V g, ?_⟩
    rw [lenL_eq]
    simp [txtB, ByteArray.size]
theorem sv_forms (n V : Nat) : (∃ b, svV n V = .string b) ∨ ∃ k x, svV n V = .int k x := by
  cases h : isNum n with
  | false => exact .inl (sv_str V h)
  | true =>
    rw [sv_num V h, numV]
    split
    · exact .inr ⟨_, _, rfl⟩
    · exact .inr ⟨_, _, rfl⟩
theorem TOk.forms {c : Nat} {v : Value} (h : TOk c v) : (∃ b, v = .string b) ∨ (∃ x, v = .int .i64 x) ∨ v = .nilIface ∨ ∃ t u, v = .iface t u := by
  rcases h with ⟨_, b, e, _⟩ | ⟨_, x, e⟩ | ⟨_, e | ⟨t, u, e⟩⟩
  · exact .inl ⟨b, e⟩
  · exact .inr (.inl ⟨x, e⟩)
  · exact .inr (.inr (.inl e))
  · exact .inr (.inr (.inr ⟨t, u, e⟩))
theorem cells_rel {v v' : Value} (h : VRel ρ v v') : LRel ρ (cellsOf v) v'.cells.toList := by
  cases h <;> first
    | (rename_i i n l hl hv; have hr : VRel ρ (.complex .f64 i n) v' := .sstr i n l v' hl hv; rcases sv_forms n l.sh with ⟨b, e⟩ | ⟨k, x, e⟩ <;> (rw [e] at hv; subst hv; exact .cons _ _ _ _ hr .nil))
    | (rename_i hk; rcases TOk.forms hk with ⟨b, rfl⟩ | ⟨x, rfl⟩ | rfl | ⟨t, u, rfl⟩ <;> exact .cons _ _ _ _ (.txt _ _ hk) .nil)
    | exact .cons _ _ _ _ (.sliceE _ _ _ _ (by assumption)) .nil
    | exact .cons _ _ _ _ (by constructor <;> assumption) .nil
    | (rename_i h; exact h)
    | skip
theorem cellOk_rel {v v' : Value} (h : VRel ρ v v') (k : cellOk v = true) : cellOk v' = true := by
  cases h <;> first | rfl | exact k | (rename_i i n l hl hv; rcases sv_forms n l.sh with ⟨b, e⟩ | ⟨_, _, e⟩ <;> (rw [e] at hv; subst hv; rfl)) | (rename_i hk; rcases TOk.forms hk with ⟨b, rfl⟩ | ⟨x, rfl⟩ | rfl | ⟨t, u, rfl⟩ <;> rfl)
theorem cellsOk_all : ∀ {l : List Value}, cellsOk l = true → ∀ v ∈ l, cellOk v = true
  | [], _, _, h => by cases h
  | x :: l, h, v, hv => by
    have h' : (cellOk x && cellsOk l) = true := h
    simp only [Bool.and_eq_true] at h'
    rcases List.mem_cons.1 hv with rfl | hv
    · exact h'.1
    · exact cellsOk_all h'.2 v hv
theorem cellsOk_rel : ∀ {l l' : List Value}, LRel ρ l l' → cellsOk l = true → ∀ v ∈ l', cellOk v = true
  | _, _, .nil, _, _, h => by cases h
  | _, _, .cons x x' l l' h t, k, v, hv => by
    have k' : (cellOk x && cellsOk l) = true := k
    simp only [Bool.and_eq_true] at k'
    rcases List.mem_cons.1 hv with rfl | hv
    · exact cellOk_rel h k'.1
    · exact cellsOk_rel t k'.2 v hv

def splice (l : List Value) (a : Nat) (m : List Value) : List Value := l.take a ++ (m ++ l.drop (a + m.length))
theorem splice_length {l m : List Value} {a : Nat} (h : a + m.length ≤ l.length) : (splice l a m).length = l.length := by
  simp only [splice, List.length_append, List.length_take, List.length_drop]; omega
theorem splice_get {l m : List Value} {a : Nat} (h : a + m.length ≤ l.length) (j : Nat) : (splice l a m)[j]? = if j < a then l[j]? else if j < a + m.length then m[j - a]? else l[j]? := by
  have ht : (l.take a).length = a := by rw [List.length_take]; omega
  unfold splice
  by_cases h1 : j < a
  · rw [if_pos h1, List.getElem?_append_left (by omega), List.getElem?_take, if_pos h1]
  · rw [if_neg h1, List.getElem?_append_right (by omega), ht]
    by_cases h2 : j < a + m.length
    · rw [if_pos h2, List.getElem?_append_left (by omega)]
    · rw [if_neg h2, List.getElem?_append_right (by omega), List.getElem?_drop]
      congr 1; omega
theorem row_splice {k : Loc} {cs : List Value} {e : TypeId} {l : Bool} {c : Array Value} {fz : Nat × Nat} (h : RowRel P ρ k cs e l c fz) {off : Nat} {vs vs' : List Value} (hv : LRel ρ vs vs') (hn : off + vs.length ≤ cs.length) :
    RowRel P ρ k (splice cs off vs) e l ⟨splice c.toList (k.sh + off) vs'⟩ fz ∧ k.sh + off + vs'.length ≤ c.size := by
  have hlen := hv.length
  have hfit : k.sh + off + vs'.length ≤ c.toList.length := by have := h.2.1; have e : c.toList.length = c.size := Array.length_toList; omega
  refine ⟨⟨fun j hj => h.1 j ?_, ?_, fun j v hj => ?_, fun hl n hz => ?_⟩, by simpa using hfit⟩
  · simpa [splice_length hfit] using hj
  · rw [splice_length hn]; simpa [splice_length hfit] using h.2.1
  · rw [splice_get hn] at hj
    have hg : (⟨splice c.toList (k.sh + off) vs'⟩ : Array Value)[k.sh + j]? = (splice c.toList (k.sh + off) vs')[k.sh + j]? := by simp
    rw [hg, splice_get hfit]
    by_cases h1 : j < off
    · rw [if_pos h1] at hj
      rw [if_pos (by omega)]
      simpa using h.2.2.1 j v hj
    · rw [if_neg h1] at hj
      rw [if_neg (by omega)]
      by_cases h2 : j < off + vs.length
      · rw [if_pos h2] at hj
        rw [if_pos (by omega)]
        obtain ⟨v', h3, h4⟩ := hv.get hj
        exact ⟨v', by rw [show k.sh + j - (k.sh + off) = j - off by omega]; exact h3, h4⟩
      · rw [if_neg h2] at hj
        rw [if_neg (by omega)]
        simpa using h.2.2.1 j v hj
  · have := h.2.2.2 hl n hz
    rw [splice_length hn]
    simpa [splice_length hfit] using this

theorem setBlk_self {g : Nat} {o : Obj} (h : w.heap[g]? = some o) : setBlk w g o = w := by
  have : w.heap.setIfInBounds g o = w.heap := by
    apply Array.ext_getElem?
    intro i
    rw [Array.getElem?_setIfInBounds]
    by_cases he : g = i
    · subst he
      rw [if_pos rfl, if_pos (Array.getElem?_eq_some_iff.1 h).1, h]
    · rw [if_neg he]
  unfold setBlk
  rw [this]
theorem setBlk_setBlk (w : World) (g : Nat) (o o' : Obj) : setBlk (setBlk w g o) g o' = setBlk w g o' := by
  unfold setBlk
  simp
theorem setCell_blk {g o : Nat} {c : Array Value} {e : TypeId} {fz : Nat × Nat} (h : w.heap[g]? = some (.cells c e fz)) (v : Value) : w.setCell ⟨g, o, none⟩ v = setBlk w g (.cells (c.setIfInBounds o v) e fz) := by
  have hlt := (Array.getElem?_eq_some_iff.1 h).1
  unfold World.setCell setBlk
  congr 1
  apply Array.ext_getElem?
  intro i
  rw [Array.getElem?_modify, Array.getElem?_setIfInBounds]
  by_cases he : g = i
  · subst he
    have hx : w.heap[g] = .cells c e fz := by
      have := Array.getElem?_eq_getElem hlt
      rw [h] at this
      exact (Option.some.inj this).symm
    simp [hlt, hx]
  · simp [he]
theorem oneCell_of {v : Value} (h : cellOk v = true) : v.oneCell' = true := by
  cases v <;> first | rfl | cases h
theorem run_storeRow (g o : Nat) (e : TypeId) (fz : Nat × Nat) : ∀ (vs : List Value) (i : Nat) (c : Array Value) (w : World), w.heap[g]? = some (.cells c e fz) → (∀ j, j < c.size → ¬ (fz.1 ≤ j ∧ j < fz.2)) → o + i + vs.length ≤ c.size → (∀ v ∈ vs, cellOk v = true) →
    (storeCells ⟨g, o, none⟩ vs i).run P w = .ok () (setBlk w g (.cells ⟨splice c.toList (o + i) vs⟩ e fz))
  | [], i, c, w, hg, _, _, _ => by
    simp only [storeCells, Sem.run_pure, splice, List.length_nil, Nat.add_zero, List.nil_append, List.take_append_drop]
    rw [setBlk_self hg]
  | v :: vs, i, c, w, hg, hf, hl, hv => by
    rw [List.length_cons] at hl
    have hcell : w.cell? ⟨g, o + i, none⟩ = some (c[o + i]'(by omega)) := by rw [cell_of hg]; exact Array.getElem?_eq_getElem _
    have hfz : w.frozen? ⟨g, o + i, none⟩ = false := by
      have := hf (o + i) (by omega)
      simp only [World.frozen?, hg]
      simpa using this
    have hs := run_store P w ⟨g, o + i, none⟩ v .plain (oneCell_of (hv v (by simp)))
    rw [hcell, hfz, setCell_blk hg] at hs
    simp only [storeCells, Sem.run_bind, addr_add, hs, Bool.false_eq_true, if_false, Result.andThen_ok]
    have hg2 : (setBlk w g (.cells (c.setIfInBounds (o + i) v) e fz)).heap[g]? = some (.cells (c.setIfInBounds (o + i) v) e fz) := by
      rw [heap_setBlk, if_pos rfl, if_pos (Array.getElem?_eq_some_iff.1 hg).1]
    have ih := run_storeRow g o e fz vs (i + 1) (c.setIfInBounds (o + i) v) _ hg2 (by simpa using hf) (by simp; omega) fun u hu => hv u (by simp [hu])
    rw [ih, setBlk_setBlk]
    congr 4
    apply List.ext_getElem?
    intro j
    rw [splice_get (by simp; omega), splice_get (by simp; omega)]
    simp only [Array.toList_setIfInBounds, List.length_cons, List.getElem?_set, Array.length_toList]
    by_cases h1 : j < o + i
    · rw [if_pos h1, if_pos (by omega), if_neg (by omega)]
    · rw [if_neg h1]
      by_cases h2 : j = o + i
      · subst h2
        rw [if_pos (by omega), if_pos rfl, if_pos (by omega), if_pos (by omega)]
        simp
      · rw [if_neg (by omega)]
        by_cases h3 : j < o + (i + 1) + vs.length
        · rw [if_pos h3, if_pos (by omega), show j - (o + i) = (j - (o + (i + 1))) + 1 by omega, List.getElem?_cons_succ]
        · rw [if_neg h3, if_neg (by omega), if_neg (by omega)]

/-- A row is written in part. -/
theorem WRel.splice (hw : WRel P b ρ s w) {a a' : Addr} {cs : List Value} {e : TypeId} {l : Bool} (hr : getRow s a = some (cs, e, l)) (ha : ARel ρ a a') (hG : b.G ≤ a.block) {vs vs' : List Value} (hv : LRel ρ vs vs') (hok : cellsOk vs = true)
    (off : Nat) (hn : off + vs.length ≤ cs.length) (j : Nat) (hj : a.off + j = off) :
    ∃ w', Ok P b ρ s ρ (setRow s a.block (splice cs off vs) e l) w' ∧ (storeCells (a'.add j) vs').run P w = .ok () w' := by
  obtain ⟨k, c, fz, hk, rfl, hg, hc, hrr⟩ := hw.row hr ha
  obtain ⟨h1, h2⟩ := row_splice hrr hv hn
  refine ⟨_, hw.set hg (by simp) hk hG ⟨_, fz, rfl, h1⟩, ?_⟩
  subst hj
  rw [addr_add]
  have := run_storeRow (P := P) k.blk (k.sh + a.off + j) e fz vs' 0 c w hc hrr.1 (by simpa [Nat.add_assoc] using h2) (cellsOk_rel hv hok)
  simpa [Nat.add_assoc] using this
theorem splice_eq (cs : List Value) (off : Nat) (vs : List Value) : appL (takeL off cs) (appL vs (dropL (off + vs.length) cs)) = splice cs off vs := by
  rw [appL_eq, appL_eq, takeL_eq, dropL_eq]; rfl
theorem set_splice {cs : List Value} {off : Nat} (v : Value) (h : off < cs.length) : cs.set off v = splice cs off [v] := by
  apply List.ext_getElem?
  intro j
  rw [splice_get (by simp; omega), List.getElem?_set]
  by_cases h1 : off = j
  · subst h1; rw [if_pos rfl, if_pos h, if_neg (by omega), if_pos (by simp)]; simp
  · rw [if_neg h1]
    by_cases h2 : j < off
    · rw [if_pos h2]
    · rw [if_neg h2, if_neg (by simp; omega)]
theorem doStore_ok {t : TypeId} {p p' v v' r : Value} {s' : St} (h : doStore P b.G t p v s = .ok r s') (hp : VRel ρ p p') (hv : VRel ρ v v') (hw : WRel P b ρ s w) :
    r = undef ∧ ∃ w', Ok P b ρ s ρ s' w' ∧ (Instr.storeAt t p' v').run P w = .ok () w' := by
  unfold doStore at h
  cases hp <;> first | (cases h; done) | skip
  rename_i a a' ha
  dsimp only at h
  cases hr : getRow s a with
  | none => rw [hr] at h; cases h
  | some x =>
    obtain ⟨cs, e, l⟩ := x
    rw [hr] at h
    dsimp only at h
    cases hz : szT P t with
    | none => rw [hz] at h; cases h
    | some n =>
      rw [hz] at h
      dsimp only at h
      obtain ⟨h1, h⟩ := bif_ok h
      simp only [Bool.and_eq_true, lenL_eq] at h1
      obtain ⟨⟨hG, hok⟩, hn, hfit⟩ := h1
      have hn := Nat.eq_of_beq_eq_true hn
      have hfit := Nat.le_of_ble_eq_true hfit
      have hcr := cells_rel hv
      have hsz : v'.cells.size = n := by rw [← hn, hcr.length, Array.length_toList]
      obtain ⟨w', h2, h3⟩ := hw.splice hr ha (Nat.le_of_ble_eq_true hG) hcr hok a.off (by omega) 0 rfl
      have h3' : (storeCells a' v'.cells.toList).run P w = .ok () w' := by simpa [Addr.add] using h3
      have hrun : (Instr.storeAt t (.pointer (some a')) v').run P w = .ok () w' := by
        simp [Instr.storeAt, Instr.sureAddr, storeVar, xs hz, hsz, h3']
      cases h1 : Nat.beq n 1 with
      | true =>
        rw [h1] at h
        simp only [cond_true] at h
        have hn1 := Nat.eq_of_beq_eq_true h1
        cases hvs : cellsOf v with
        | nil => rw [hvs] at h; cases h
        | cons x l' =>
          cases l' with
          | cons _ _ => rw [hvs] at h; cases h
          | nil =>
            rw [hvs] at h h2
            injection h with h4 h5
            subst h4; subst h5
            rw [setL_eq, set_splice _ (by omega)]
            exact ⟨rfl, w', h2, hrun⟩
      | false =>
        rw [h1] at h
        simp only [cond_false] at h
        injection h with h4 h5
        subst h4; subst h5
        rw [← hn, splice_eq]
        exact ⟨rfl, w', h2, hrun⟩
end
end Go.Proofs.YtkcgggobcnlnpaaGreatDoor.X

namespace Go.Proofs.YtkcgggobcnlnpaaGreatDoor.X
open Go.RowKit

section
variable {P : Program} {b : Base} {ρ : Ren} {s : St} {w : World}

def ORelV (ρ : Ren) : Option Value → Option Value → Prop
  | none, o => o = none
  | some v, o => ∃ v', o = some v' ∧ VRel ρ v v'
theorem natOf_ok {d n : Nat} {o o' : Option Value} (h : natOf d o = some n) (hr : ORelV ρ o o') : o' = o ∧ (o = none ∧ n = d ∨ ∃ k i, o = some (.int k i) ∧ 0 ≤ i ∧ n = i.toNat) := by
  cases o with
  | none => simp [natOf] at h; exact ⟨hr, .inl ⟨rfl, h.symm⟩⟩
  | some v =>
    obtain ⟨v', rfl, hv⟩ := hr
    cases hv <;> simp only [natOf] at h <;> first | (cases h; done) | skip
    rename_i k i
    cases hd : decide (0 ≤ i) with
    | false => rw [hd] at h; cases h
    | true =>
      rw [hd] at h
      injection h with h
      exact ⟨rfl, .inr ⟨k, i, rfl, by simpa using hd, h.symm⟩⟩
end
end Go.Proofs.YtkcgggobcnlnpaaGreatDoor.X
namespace Go.Proofs.YtkcgggobcnlnpaaGreatDoor.X
open Go.RowKit
section
variable {P : Program} {b : Base} {ρ : Ren} {s : St} {w : World}
theorem xb {k : IntKind} {i : Int} {y : Nat} {code : BoundsCode} (h0 : 0 ≤ i) (h1 : i.toNat ≤ y) (w : World) : (Instr.sliceBound (.int k i) y code).run P w = .ok i.toNat w := by
  have : i ≤ (y : Int) := by omega
  simp [Instr.sliceBound, asIntOf, h0, this]
/-- The bounds, without a third one. -/
theorem run_bounds2 (f : Bool) {len cap l h : Nat} {lo hi : Option Value} (hl : lo = none ∧ l = 0 ∨ ∃ k i, lo = some (.int k i) ∧ 0 ≤ i ∧ l = i.toNat) (hh : hi = none ∧ h = len ∨ ∃ k i, hi = some (.int k i) ∧ 0 ≤ i ∧ h = i.toNat)
    (h1 : l ≤ h) (h2 : h ≤ cap) (w : World) : (Instr.sliceBounds f len cap lo hi none).run P w = .ok (l, h, cap) w := by
  rcases hl with ⟨rfl, rfl⟩ | ⟨k, i, rfl, hi0, rfl⟩ <;> rcases hh with ⟨rfl, rfl⟩ | ⟨k', i', rfl, hi0', rfl⟩ <;>
    simp [Instr.sliceBounds, *, xb]
theorem run_bounds3 (f : Bool) {len cap l h : Nat} {lo hi : Option Value} {km : IntKind} {m : Int} (hl : lo = none ∧ l = 0 ∨ ∃ k i, lo = some (.int k i) ∧ 0 ≤ i ∧ l = i.toNat) (hh : ∃ k i, hi = some (.int k i) ∧ 0 ≤ i ∧ h = i.toNat)
    (h1 : l ≤ h) (h2 : h ≤ m.toNat) (h0 : 0 ≤ m) (h3 : m.toNat ≤ cap) (w : World) : (Instr.sliceBounds f len cap lo hi (some (.int km m))).run P w = .ok (l, h, m.toNat) w := by
  obtain ⟨k', i', rfl, hi0', rfl⟩ := hh
  rcases hl with ⟨rfl, rfl⟩ | ⟨k, i, rfl, hi0, rfl⟩ <;>
    simp [Instr.sliceBounds, *, xb]
theorem isInf_sub {c l : Nat} (h : isInf c = false) : isInf (c - l) = false := by
  unfold isInf at *
  cases hb : Nat.ble (2 ^ 63) (c - l) with
  | false => rfl
  | true =>
    have := Nat.le_of_ble_eq_true hb
    rw [Nat.ble_eq_true_of_le (by omega)] at h
    cases h
theorem ARel.base {a a' : Addr} (h : ARel ρ a a') (c : Prop) [Decidable c] (cb : Bool) (hc : cb = decide c) (n : Nat) : ARel ρ (baseAt cb a n) (if c then a' else a'.add n) := by
  subst hc
  unfold baseAt
  by_cases hc : c
  · simp [hc]; exact h
  · simp [hc]; exact h.add n
theorem run_slice_at {t elem : TypeId} {size : Nat} {a' : Option Addr} {len cap l h m : Nat} {lo hi mx : Option Value} (hu : P.underlying t = some (.slice elem)) (hz : szT P elem = some size)
    (hb : ∀ w, (Instr.sliceBounds true len cap lo hi mx).run P w = .ok (l, h, m) w) (w : World) :
    (Instr.sliceAt t (.slice a' len cap) lo hi mx).run P w = .ok (.slice (if m = l then a' else a'.map (·.add (l * size))) (h - l) (m - l)) w := by
  simp [Instr.sliceAt, Instr.slice, xu hu, hb, xs hz]

theorem doSlice_ok {t : TypeId} {x x' v : Value} {lo hi mx lo' hi' mx' : Option Value} {s' : St} (h : doSlice P t x lo hi mx s = .ok v s') (hx : VRel ρ x x') (hlo : ORelV ρ lo lo') (hhi : ORelV ρ hi hi') (hmx : ORelV ρ mx mx') (hw : WRel P b ρ s w) :
    s' = s ∧ QOk P ρ w v (Instr.sliceAt t x' lo' hi' mx') := by
  unfold doSlice at h
  cases hu : P.underlying t with
  | none => rw [hu] at h; cases h
  | some d =>
    rw [hu] at h
    cases d <;> first | (cases h; done) | skip
    case string =>
      cases hx <;> first | (cases h; done) | skip
      case txt c hk =>
        dsimp only at h
        cases h1 : natOf 0 lo with
        | none => rw [h1] at h; cases h
        | some l =>
          cases h2 : natOf (lenL (tL c)) hi with
          | none => rw [h1, h2] at h; cases h
          | some hh =>
            cases mx with
            | some _ => rw [h1, h2] at h; cases h
            | none =>
              rw [h1, h2] at h
              dsimp only at h
              obtain ⟨h3, h⟩ := bif_ok h
              simp only [Bool.and_eq_true] at h3
              have g0 := Nat.eq_of_beq_eq_true h3.1
              have g1 := Nat.le_of_ble_eq_true h3.2.1
              have g2 := Nat.le_of_ble_eq_true h3.2.2
              obtain ⟨bs, rfl, hbs⟩ : ∃ bs : ByteArray, x' = .string bs ∧ TR (tL c) bs.data.toList := by
                rcases hk with ⟨_, bs, e, hb⟩ | ⟨e, _⟩ | ⟨e, _⟩
                · exact ⟨bs, e, hb⟩
                · omega
                · omega
              have hlen : lenL (tL c) = bs.size := by rw [lenL_eq]; exact TR_len hbs
              rw [hlen] at h2 g2
              obtain ⟨rfl, k1⟩ := natOf_ok h1 hlo
              obtain ⟨rfl, k2⟩ := natOf_ok h2 hhi
              have hm : mx' = none := hmx
              subst hm
              rw [takeL_eq, dropL_eq] at h
              have hx2 : TR (((tL c).drop l).take (hh - l)) (bs.extract l hh).data.toList := by
                have e : (bs.extract l hh).data.toList = (bs.data.toList.drop l).take (hh - l) := by
                  rw [ByteArray.data_extract, Array.toList_extract, List.extract_eq_take_drop]
                rw [e]
                exact TR_take _ (TR_drop _ hbs)
              obtain ⟨e, hv⟩ := mkTxt_ok (ρ := ρ) h hx2
              refine ⟨e, _, hv, ?_⟩
              have := run_bounds2 (P := P) false k1 k2 g1 g2 w
              simp [Instr.sliceAt, Instr.slice, xu hu, this]
      rename_i bs
      dsimp only at h
      cases h1 : natOf 0 lo with
      | none => rw [h1] at h; cases h
      | some l =>
        cases h2 : natOf (lenL bs.data.toList) hi with
        | none => rw [h1, h2] at h; cases h
        | some hh =>
          cases mx with
          | some _ => rw [h1, h2] at h; cases h
          | none =>
            rw [h1, h2] at h
            have hsz : lenL bs.data.toList = bs.size := by rw [lenL_eq]; rfl
            rw [hsz] at h2 h
            obtain ⟨h3, h⟩ := bif_ok h
            rw [forceL_eq, takeL_eq, dropL_eq] at h
            have hex : (⟨⟨(bs.data.toList.drop l).take (hh - l)⟩⟩ : ByteArray) = bs.extract l hh := by
              have e : (bs.extract l hh).data.toList = (bs.data.toList.drop l).take (hh - l) := by
                rw [ByteArray.data_extract, Array.toList_extract, List.extract_eq_take_drop]
              rw [← e]
            rw [hex] at h
            injection h with h4 h5
            subst h4; subst h5
            simp only [Bool.and_eq_true] at h3
            obtain ⟨rfl, k1⟩ := natOf_ok h1 hlo
            obtain ⟨rfl, k2⟩ := natOf_ok h2 hhi
            have hm : mx' = none := hmx
            subst hm
            refine ⟨rfl, _, .string _, ?_⟩
            have := run_bounds2 (P := P) false k1 k2 (Nat.le_of_ble_eq_true h3.1) (Nat.le_of_ble_eq_true h3.2) w
            simp [Instr.sliceAt, Instr.slice, xu hu, this]
    case slice elem =>
      cases hx <;> first | (cases h; done) | skip
      case sliceN len cap =>
        dsimp only at h
        cases hz : szT P elem with
        | none => rw [hz] at h; cases h
        | some size =>
          cases h1 : natOf 0 lo with
          | none => rw [hz, h1] at h; cases h
          | some l =>
            cases h2 : natOf len hi with
            | none => rw [hz, h1, h2] at h; cases h
            | some hh =>
              obtain ⟨rfl, k1⟩ := natOf_ok h1 hlo
              obtain ⟨rfl, k2⟩ := natOf_ok h2 hhi
              cases mx with
              | none =>
                have hm : mx' = none := hmx
                subst hm
                rw [hz, h1, h2] at h
                obtain ⟨h3, h⟩ := bif_ok h
                injection h with h4 h5
                subst h4; subst h5
                simp only [Bool.and_eq_true] at h3
                have e1 := Nat.eq_of_beq_eq_true h3.1.1
                have e2 := Nat.eq_of_beq_eq_true h3.1.2
                have e3 := Nat.eq_of_beq_eq_true h3.2.1
                have e4 := Nat.eq_of_beq_eq_true h3.2.2
                subst e1; subst e2; subst e3; subst e4
                refine ⟨rfl, _, .sliceN _ _, ?_⟩
                have := run_slice_at (P := P) (a' := none) hu hz (fun w => run_bounds2 (P := P) true k1 k2 (Nat.le_refl _) (Nat.le_refl _) w) w
                simpa using this
              | some mv =>
                obtain ⟨mv', rfl, hmv⟩ := hmx
                rw [hz, h1, h2] at h
                cases hmv <;> first | (cases h; done) | skip
                rename_i km m
                dsimp only at h
                obtain ⟨h3, h⟩ := bif_ok h
                injection h with h4 h5
                subst h4; subst h5
                simp only [Bool.and_eq_true, decide_eq_true_eq] at h3
                have e1 := Nat.eq_of_beq_eq_true h3.1.1.1
                have e2 := Nat.eq_of_beq_eq_true h3.1.1.2
                have e3 := Nat.eq_of_beq_eq_true h3.1.2.1
                have e4 := Nat.eq_of_beq_eq_true h3.1.2.2
                subst e1; subst e2; subst e3; subst e4
                obtain ⟨_, h7, h8⟩ := h3
                subst h8
                have k2' : ∃ k i, hi' = some (.int k i) ∧ 0 ≤ i ∧ 0 = i.toNat := by
                  rcases k2 with ⟨e, _⟩ | k2
                  · rw [e] at h7; cases h7
                  · exact k2
                refine ⟨rfl, _, .sliceN _ _, ?_⟩
                have := run_slice_at (P := P) (a' := none) (len := 0) hu hz (fun w => run_bounds3 (P := P) (km := km) true k1 k2' (Nat.le_refl _) (Nat.le_refl _) (Int.le_refl _) (Nat.le_refl _) w) w
                simpa using this
      case sliceE a a' c c' hsp =>
        dsimp only at h
        cases hz : szT P elem with
        | none => rw [hz] at h; cases h
        | some size =>
          cases h1 : natOf 0 lo with
          | none => rw [hz, h1] at h; cases h
          | some l =>
            cases h2 : natOf 0 hi with
            | none => rw [hz, h1, h2] at h; cases h
            | some hh =>
              obtain ⟨rfl, k1⟩ := natOf_ok h1 hlo
              obtain ⟨rfl, k2⟩ := natOf_ok h2 hhi
              rw [hz, h1, h2] at h
              dsimp only at h
              rw [hsp] at h
              simp only [cond_true] at h
              cases mx with
              | some _ => cases h
              | none =>
                have hm : mx' = none := hmx
                subst hm
                dsimp only at h
                obtain ⟨h3, h⟩ := bif_ok h
                injection h with h4 h5
                subst h4; subst h5
                simp only [Bool.and_eq_true] at h3
                have e1 := Nat.eq_of_beq_eq_true h3.1
                have e2 := Nat.eq_of_beq_eq_true h3.2
                subst e1; subst e2
                have hrun := run_slice_at (P := P) (a' := some a') hu hz (fun w => run_bounds2 (P := P) true k1 k2 (Nat.le_refl _) (Nat.zero_le c') w) w
                refine ⟨rfl, .slice (some (if c' = 0 then a' else a'.add (0 * size))) 0 (c' - 0), .sliceE _ _ _ _ hsp, ?_⟩
                rw [hrun]
                split <;> rfl
      case slice a a' len cap cap' ha hc =>
        dsimp only at h
        cases hz : szT P elem with
        | none => rw [hz] at h; cases h
        | some size =>
          cases h1 : natOf 0 lo with
          | none => rw [hz, h1] at h; cases h
          | some l =>
            cases h2 : natOf len hi with
            | none => rw [hz, h1, h2] at h; cases h
            | some hh =>
              rw [hz, h1, h2] at h
              obtain ⟨rfl, k1⟩ := natOf_ok h1 hlo
              obtain ⟨rfl, k2⟩ := natOf_ok h2 hhi
              dsimp only at h
              rw [ha.1] at h
              simp only [Option.isSome_none, cond_false] at h
              -- what is known of a row of an open capacity
              have open_ : ∀ {cs : List Value} {e : TypeId} {lo : Bool} {n : Nat}, getRow s a = some (cs, e, lo) → isInf cap = true → a.off + n * size ≤ cs.length → a.off = (INF - cap) * size → 0 < size → e = elem → lo = true → n ≤ cap' := by
                intro cs e lo n hr hi hfit hoff hs he hlo
                subst he; subst hlo
                obtain ⟨k, c, fz, hk, rfl, hg, hcc, hrr⟩ := hw.row hr ha
                have hc2 := hc.2
                rw [if_pos hi] at hc2
                obtain ⟨hle, k', hk', hcap⟩ := hc2
                rw [hk] at hk'
                injection hk' with hk'
                subst hk'
                have h3 := (hrr.2.2.2 rfl size hz).1
                rw [hoff] at hfit
                have h4 : ((INF - cap) + n) * size ≤ k.cap * size := by rw [Nat.add_mul]; omega
                have h5 := Nat.le_of_mul_le_mul_right h4 hs
                omega
              cases mx with
              | none =>
                have hm : mx' = none := hmx
                subst hm
                dsimp only at h
                cases hi : isInf cap with
                | true =>
                  rw [hi] at h
                  simp only [cond_true] at h
                  cases hr : getRow s a with
                  | none => rw [hr] at h; cases h
                  | some y =>
                    obtain ⟨cs, e, lo⟩ := y
                    rw [hr] at h
                    dsimp only at h
                    obtain ⟨h3, h⟩ := bif_ok h
                    simp only [Bool.and_eq_true, lenL_eq] at h3
                    obtain ⟨⟨g1, g2⟩, ⟨g3, g4⟩, ⟨g5, g6⟩, g7, g8⟩ := h3
                    have g1 := Nat.le_of_ble_eq_true g1
                    have hcc := open_ hr hi (Nat.le_of_ble_eq_true g2) (Nat.eq_of_beq_eq_true g4) (Nat.le_of_ble_eq_true g5) (Nat.eq_of_beq_eq_true g7) g8
                    have hrun := run_slice_at (P := P) (a' := some a') hu hz (fun w => run_bounds2 (P := P) true k1 k2 g1 hcc w) w
                    cases hlt : (Nat.beq l 0 || Nat.blt l hh) with
                    | true =>
                      rw [hlt] at h
                      simp only [cond_true] at h
                      injection h with h4 h5
                      subst h4; subst h5
                      have hbase : (if cap' = l then some a' else (some a').map (·.add (l * size))) = some (a'.add (l * size)) := by
                        simp only [Bool.or_eq_true] at hlt
                        rcases hlt with hlt | hlt
                        · have := Nat.eq_of_beq_eq_true hlt
                          subst this
                          rw [Nat.zero_mul]
                          have : a'.add 0 = a' := by simp [Addr.add]
                          split <;> simp [this]
                        · have hlt : l < hh := Nat.le_of_ble_eq_true hlt
                          rw [if_neg (by omega)]; rfl
                      rw [hbase] at hrun
                      refine ⟨rfl, _, .slice _ _ _ _ _ (ha.add (l * size)) ⟨by omega, ?_⟩, hrun⟩
                      rw [if_pos g6]
                      have hc2 := hc.2
                      rw [if_pos hi] at hc2
                      obtain ⟨hle, k', hk', hcap⟩ := hc2
                      refine ⟨by omega, k', hk', ?_⟩
                      unfold isInf at g6
                      have g6 := Nat.le_of_ble_eq_true g6
                      omega
                    | false =>
                      rw [hlt] at h
                      simp only [cond_false] at h
                      injection h with h4 h5
                      subst h4; subst h5
                      have hlt : ¬ l < hh := fun h => by
                        rw [show Nat.blt l hh = true from Nat.ble_eq_true_of_le h] at hlt; simp at hlt
                      have hlh : hh - l = 0 := by omega
                      rw [hlh] at hrun
                      refine ⟨rfl, .slice (some (if cap' = l then a' else a'.add (l * size))) 0 (cap' - l), .sliceE _ _ _ _ rfl, ?_⟩
                      rw [hrun]
                      split <;> rfl
                | false =>
                  rw [hi] at h
                  simp only [cond_false] at h
                  obtain ⟨h3, h⟩ := bif_ok h
                  injection h with h4 h5
                  subst h4; subst h5
                  simp only [Bool.and_eq_true] at h3
                  have hc2 := hc.2
                  rw [if_neg (by rw [hi]; simp)] at hc2
                  subst hc2
                  have g1 := Nat.le_of_ble_eq_true h3.1
                  have g2 := Nat.le_of_ble_eq_true h3.2
                  have hrun := run_slice_at (P := P) (a' := some a') hu hz (fun w => run_bounds2 (P := P) true k1 k2 g1 g2 w) w
                  refine ⟨rfl, .slice (some (if cap' = l then a' else a'.add (l * size))) (hh - l) (cap' - l), .slice _ _ _ _ _ (ha.base (cap' = l) _ (by rw [Bool.eq_iff_iff]; simp) (l * size)) ⟨by omega, by rw [if_neg (by rw [isInf_sub hi]; simp)]⟩, ?_⟩
                  rw [hrun]
                  split <;> rfl
              | some mv =>
                obtain ⟨mv', rfl, hmv⟩ := hmx
                cases hmv <;> first | (cases h; done) | skip
                rename_i km m
                dsimp only at h
                obtain ⟨h3, h⟩ := bif_ok h
                simp only [Bool.and_eq_true, decide_eq_true_eq, Bool.not_eq_true'] at h3
                obtain ⟨⟨g0, g1⟩, ⟨g2, g3⟩, g4⟩ := h3
                have g2 := Nat.le_of_ble_eq_true g2
                have g3 := Nat.le_of_ble_eq_true g3
                have k2' : ∃ k i, hi' = some (.int k i) ∧ 0 ≤ i ∧ hh = i.toNat := by
                  rcases k2 with ⟨e, _⟩ | k2
                  · rw [e] at g0; cases g0
                  · exact k2
                have fin : m.toNat ≤ cap' → v = .slice (some (baseAt (Nat.beq m.toNat l) a (l * size))) (hh - l) (m.toNat - l) → s' = s → s' = s ∧ QOk P ρ w v (Instr.sliceAt t (.slice (some a') len cap') lo' hi' (some (.int km m))) := by
                  rintro hmc rfl rfl
                  have hrun := run_slice_at (P := P) (a' := some a') (len := len) hu hz (fun w => run_bounds3 (P := P) (km := km) true k1 k2' g2 g3 g1 hmc w) w
                  refine ⟨rfl, .slice (some (if m.toNat = l then a' else a'.add (l * size))) (hh - l) (m.toNat - l), .slice _ _ _ _ _ (ha.base (m.toNat = l) _ (by rw [Bool.eq_iff_iff]; simp) (l * size)) ⟨by omega, by rw [if_neg (by rw [isInf_sub g4]; simp)]⟩, ?_⟩
                  rw [hrun]
                  split <;> rfl
                cases hi : isInf cap with
                | true =>
                  rw [hi] at h
                  simp only [cond_true] at h
                  cases hr : getRow s a with
                  | none => rw [hr] at h; cases h
                  | some y =>
                    obtain ⟨cs, e, lo⟩ := y
                    rw [hr] at h
                    dsimp only at h
                    obtain ⟨h3, h⟩ := bif_ok h
                    simp only [Bool.and_eq_true, lenL_eq] at h3
                    obtain ⟨h3, ⟨h4, h5⟩, h6, h7, h8⟩ := h3
                    injection h with e1 e2
                    exact fin (open_ hr hi (Nat.le_of_ble_eq_true h3) (Nat.eq_of_beq_eq_true h5) (Nat.le_of_ble_eq_true h6) (Nat.eq_of_beq_eq_true h7) h8) e1.symm e2.symm
                | false =>
                  rw [hi] at h
                  simp only [cond_false] at h
                  obtain ⟨h3, h⟩ := bif_ok h
                  injection h with e1 e2
                  have hc2 := hc.2
                  rw [if_neg (by rw [hi]; simp)] at hc2
                  exact fin (by rw [hc2]; exact Nat.le_of_ble_eq_true h3) e1.symm e2.symm
    case array n elem =>
      cases hx <;> first | (cases h; done) | skip
      rename_i a a' ha
      dsimp only at h
      cases hz : szT P elem with
      | none => rw [hz] at h; cases h
      | some size =>
        cases h1 : natOf 0 lo with
        | none => rw [hz, h1] at h; cases h
        | some l =>
          cases h2 : natOf n hi with
          | none => rw [hz, h1, h2] at h; cases h
          | some hh =>
            cases mx with
            | some _ => rw [hz, h1, h2] at h; cases h
            | none =>
              have hm : mx' = none := hmx
              subst hm
              rw [hz, h1, h2] at h
              obtain ⟨rfl, k1⟩ := natOf_ok h1 hlo
              obtain ⟨rfl, k2⟩ := natOf_ok h2 hhi
              obtain ⟨h3, h⟩ := bif_ok h
              injection h with e1 e2
              subst e1; subst e2
              simp only [Bool.and_eq_true, Bool.not_eq_true'] at h3
              have g1 := Nat.le_of_ble_eq_true h3.1.1
              have g2 := Nat.le_of_ble_eq_true h3.1.2
              have := run_bounds2 (P := P) false k1 k2 g1 g2 w
              refine ⟨rfl, .slice (some (if n = l then a' else a'.add (l * size))) (hh - l) (n - l), .slice _ _ _ _ _ (ha.base (n = l) _ (by rw [Bool.eq_iff_iff]; simp) (l * size)) ⟨by omega, by rw [if_neg (by rw [isInf_sub h3.2]; simp)]⟩, ?_⟩
              simp [Instr.sliceAt, Instr.sureAddr, xu hu, this, xs hz]
end
end Go.Proofs.YtkcgggobcnlnpaaGreatDoor.X

namespace Go.Proofs.YtkcgggobcnlnpaaGreatDoor.X
open Go.RowKit

section
variable {P : Program} {b : Base} {ρ : Ren} {s : St} {w : World}

theorem wrap_u8 (x : Nat) : IntKind.u8.wrap (x : Int) = ((x % 2 ^ 8 : Nat) : Int) := by
  simp only [IntKind.wrap, IntKind.bits, IntKind.signed]
  simp
theorem fldConv_ok {k : IntKind} {i n : Nat} {l : Loc} {v : Value} (h : fldConv k i n = some v) (g : isFld n = true) (hl : ρ i = some l) : ∃ x : Int, svV n l.sh = .int (nK n) x ∧ VRel ρ v (.int k (k.wrap x)) := by
  unfold fldConv at h
  obtain ⟨_, _, g3⟩ := isFld_num g
  have hc := clamp_in g3 (fldQ (nQ n) l.sh / 2 ^ nSh n % 2 ^ nW n)
  cases hb : Nat.ble (nHi n) (mxK k) with
  | true =>
    rw [hb] at h
    simp only [cond_true] at h
    have hb := Nat.le_of_ble_eq_true hb
    obtain ⟨n', rfl, f0, f1, f2, f3, f4, f5, f6⟩ := mkN_ok h
    refine ⟨_, sv_fld l.sh g, .sstr i n' l _ hl ?_⟩
    rw [sv_fld l.sh f0, f1, f2, f3, f4, f5, f6, mx_wrap k _ (by omega)]
  | false =>
    rw [hb] at h
    simp only [cond_false] at h
    obtain ⟨g2, hq⟩ := bif_some h
    clear h
    simp only [Bool.and_eq_true, decide_eq_true_eq] at g2
    obtain ⟨rfl, ⟨e0, e1⟩, e2⟩ := g2
    have e0 := Nat.eq_of_beq_eq_true e0
    have e1 := Nat.eq_of_beq_eq_true e1
    have e2 := Nat.le_of_ble_eq_true e2
    obtain ⟨n', rfl, f0, f1, f2, f3, f4, f5, f6⟩ := mkN_ok hq
    refine ⟨_, sv_full l.sh g e0 e1, .sstr i n' l _ hl ?_⟩
    have e := sv_full l.sh f0 f2 (by rw [f3, f4])
    rw [f1, f4, f5, f6] at e
    rw [e, wrap_u8, Nat.mod_mod_of_dvd _ (Nat.pow_dvd_pow 2 e2)]
theorem convF_ok {k : IntKind} {a a' v : Value} {s' : St} (h : convF k a s = .ok v s') (ha : VRel ρ a a') : ∃ (k' : IntKind) (x : Int), a' = .int k' x ∧ s' = s ∧ VRel ρ v (.int k (k.wrap x)) := by
  unfold convF at h
  split at h
  · rename_i i n
    cases hg : isFld n with
    | false => rw [hg] at h; exact convR_ok h ha
    | true =>
      rw [hg] at h
      simp only [cond_true] at h
      split at h
      · rename_i u hu
        injection h with e1 e2
        subst e1; subst e2
        have ha0 := ha
        cases ha
        rename_i l hl hv
        obtain ⟨x, h1, h2⟩ := fldConv_ok hu hg hl
        exact ⟨_, x, hv.trans h1, rfl, h2⟩
      · exact convR_ok h ha
  · exact convR_ok h ha
theorem doIndex_ok {t : TypeId} {x x' i i' v : Value} {s' : St} (h : doIndex P t x i s = .ok v s') (hx : VRel ρ x x') (hi : VRel ρ i i') : s' = s ∧ QOk P ρ w v (Instr.index t x' i') := by
  unfold doIndex at h
  cases hu : P.underlying t with
  | none => rw [hu] at h; cases h
  | some d =>
    rw [hu] at h
    cases d <;> first | (cases h; done) | skip
    case array n e =>
      cases hx <;> first | (cases h; done) | skip
      cases hi <;> first | (cases h; done) | skip
      rename_i a a' ha k m
      dsimp only at h
      obtain ⟨z, hz, h⟩ := ofO_ok h
      obtain ⟨h1, h⟩ := bif_ok h
      simp only [Bool.and_eq_true, decide_eq_true_eq] at h1
      obtain ⟨h2, u', h3, h4⟩ := partOf_ok (w := w) h ha
      refine ⟨h2, u', h3, ?_⟩
      simp [Instr.index, asIntOf, xu hu, h1, xs hz, h4]
    case string =>
      cases hx <;> first | (cases h; done) | skip
      case txt c hk =>
        cases hi <;> first | (cases h; done) | skip
        rename_i k m
        dsimp only at h
        obtain ⟨h1, h⟩ := bif_ok h
        simp only [Bool.and_eq_true, decide_eq_true_eq] at h1
        have g0 := Nat.eq_of_beq_eq_true h1.1
        obtain ⟨p, hp, h⟩ := ofO_ok h
        rw [nth_eq] at hp
        obtain ⟨bs, rfl, hbs⟩ : ∃ bs : ByteArray, x' = .string bs ∧ TR (tL c) bs.data.toList := by
          rcases hk with ⟨_, bs, e, hb⟩ | ⟨e, _⟩ | ⟨e, _⟩
          · exact ⟨bs, e, hb⟩
          · omega
          · omega
        obtain ⟨y, hy, y1, y2⟩ := TR_get hbs hp
        obtain ⟨e, hv⟩ := mkR_ok (ρ := ρ) h y1 y2
        refine ⟨e, _, hv, ?_⟩
        have hg : bs[m.toNat]? = some y := by
          rw [Array.getElem?_toList] at hy
          obtain ⟨hl, he⟩ := Array.getElem?_eq_some_iff.1 hy
          have hl' : m.toNat < bs.size := hl
          rw [getElem?_pos bs m.toNat hl']
          exact congrArg some he
        simp [Instr.index, asIntOf, xu hu, h1.2, hg]
      case sstr i n l hl hv =>
        cases hi <;> first | (cases h; done) | skip
        rename_i k m
        dsimp only at h
        obtain ⟨h1, h⟩ := bif_ok h
        simp only [Bool.and_eq_true, decide_eq_true_eq] at h1
        obtain ⟨d, hd, h⟩ := ofO_ok h
        obtain ⟨u, hu2, h⟩ := ofO_ok h
        injection h with e1 e2
        subst e1; subst e2
        rw [nth_eq] at hd
        rw [sv_txt l.sh h1.1] at hv
        subst hv
        refine ⟨rfl, _, itemV_ok hu2 hl, ?_⟩
        have hg : (txtB n l.sh)[m.toNat]? = some (itemB l.sh d) := by
          have hy : (txtB n l.sh).data.toList[m.toNat]? = some (itemB l.sh d) := by
            show ((tItems n).map (itemB l.sh))[m.toNat]? = _
            rw [List.getElem?_map, hd]; rfl
          rw [Array.getElem?_toList] at hy
          obtain ⟨hl, he⟩ := Array.getElem?_eq_some_iff.1 hy
          have hl' : m.toNat < (txtB n l.sh).size := hl
          rw [getElem?_pos (txtB n l.sh) m.toNat hl']
          exact congrArg some he
        simp [Instr.index, asIntOf, xu hu, h1.2, hg]
      cases hi <;> first | (cases h; done) | skip
      rename_i bs k m
      dsimp only at h
      obtain ⟨h1, h⟩ := bif_ok h
      obtain ⟨c, hc, h⟩ := ofO_ok h
      injection h with e1 e2
      subst e1; subst e2
      rw [nth_eq] at hc
      have h1' : 0 ≤ m := by simpa using h1
      refine ⟨rfl, _, .int _ _, ?_⟩
      have hg : bs[m.toNat]? = some c := by
        rw [Array.getElem?_toList] at hc
        obtain ⟨hl, he⟩ := Array.getElem?_eq_some_iff.1 hc
        have hl' : m.toNat < bs.size := hl
        rw [getElem?_pos bs m.toNat hl']
        exact congrArg some he
      simp [Instr.index, asIntOf, xu hu, h1', hg]

theorem doExtract_ok {x x' v : Value} {i : Nat} {vs : List Value} (hx : x = .tuple ⟨vs⟩) (hv : nth vs i = some v) (h : VRel ρ x x') : QOk P ρ w v (Instr.extract x' i) := by
  subst hx
  cases h
  rename_i a ha
  rw [nth_eq] at hv
  obtain ⟨v', h1, h2⟩ := ha.get hv
  exact ⟨v', h2, by simp [Instr.extract, h1]⟩

theorem lenAny_eq (q : Nat) : lenAny (.chan (some (q + 1))) s = bif Nat.ble (q + 1) 1 then .no 98 1 else bif Nat.beq (q % 2) 1 then mkR .i64 0 (q / 2) s else mkR .i64 (q / 2) 9223372036854775807 s := by
  unfold lenAny
  simp only [Nat.add_sub_cancel]
theorem lenA_hi {q n : Nat} {v : Value} {s' : St} (h : (bif Nat.ble (q + 1) 1 then .no 98 1 else bif Nat.beq (q % 2) 1 then mkR .i64 0 (q / 2) s else mkR .i64 (q / 2) 9223372036854775807 s) = Rs.ok v s') (hb : n ≤ 9223372036854775807) (h0 : q / 2 ≤ n) (hm : Nat.beq (q % 2) 1 = false) (hq : Nat.ble (q + 1) 1 = false) : s' = s ∧ VRel ρ v (.int .i64 (n : Int)) := by
  rw [hq, cond_false, hm, cond_false] at h
  exact mkR_ok h h0 hb
theorem lenA_lo {q n : Nat} {v : Value} {s' : St} (h : (bif Nat.ble (q + 1) 1 then .no 98 1 else bif Nat.beq (q % 2) 1 then mkR .i64 0 (q / 2) s else mkR .i64 (q / 2) 9223372036854775807 s) = Rs.ok v s') (h0 : n ≤ q / 2) (hm : Nat.beq (q % 2) 1 = true) (hq : Nat.ble (q + 1) 1 = false) : s' = s ∧ VRel ρ v (.int .i64 (n : Int)) := by
  rw [hq, cond_false, hm, cond_true] at h
  exact mkR_ok h (Nat.zero_le n) h0
theorem lenAny_ok {q n : Nat} {v : Value} {s' : St} (h : lenAny (.chan (some (q + 1))) s = .ok v s') (hb : n ≤ 9223372036854775807 ∧ (q = 0 ∨ if q % 2 = 1 then n ≤ q / 2 else q / 2 ≤ n)) : s' = s ∧ VRel ρ v (.int .i64 (n : Int)) := by
  rw [lenAny_eq] at h
  obtain ⟨hb1, hb2⟩ := hb
  have h0 : Nat.ble (q + 1) 1 = false → q ≠ 0 := fun hq e => by subst e; exact absurd hq (by decide)
  by_cases hq : Nat.ble (q + 1) 1 = true
  · rw [hq, cond_true] at h; cases h
  · have hq := Bool.not_eq_true _ ▸ hq
    have hb3 := hb2.resolve_left (h0 hq)
    by_cases hm : q % 2 = 1
    · rw [if_pos hm] at hb3
      exact lenA_lo h hb3 (by rw [hm]; rfl) hq
    · rw [if_neg hm] at hb3
      exact lenA_hi h hb1 hb3 (Bool.eq_false_iff.2 fun e => hm (Nat.eq_of_beq_eq_true e)) hq
theorem doLen_ok {ts : Array TypeId} {ty : TypeId} {args args' : List Value} {v : Value} {s' : St} (h : doLen P ts.toList args s = .ok v s') (ha : LRel ρ args args') (hw : WRel P b ρ s w) : s' = s ∧ QOk P ρ w v (Builtin.len_ ts ty ⟨args'⟩) := by
  unfold doLen at h
  obtain ⟨ts⟩ := ts
  cases ts with
  | nil => cases h
  | cons t r =>
    cases ha with
    | nil => cases h
    | cons x x' l l' hx hl =>
      cases hl with
      | cons _ _ _ _ _ _ => cases h
      | nil =>
        dsimp only at h
        cases hu : P.underlying t with
        | none => rw [hu] at h; cases h
        | some d =>
          rw [hu] at h
          cases d <;> first | (cases h; done) | skip
          case string =>
            cases hx <;> first | (cases h; done) | skip
            case txt c hk =>
              obtain ⟨h1, h⟩ := bif_ok h
              have g0 := Nat.eq_of_beq_eq_true h1
              injection h with e1 e2
              subst e1; subst e2
              obtain ⟨bs, rfl, hbs⟩ : ∃ bs : ByteArray, x' = .string bs ∧ TR (tL c) bs.data.toList := by
                rcases hk with ⟨_, bs, e, hb⟩ | ⟨e, _⟩ | ⟨e, _⟩
                · exact ⟨bs, e, hb⟩
                · omega
                · omega
              have hlen : lenL (tL c) = bs.size := by rw [lenL_eq]; exact TR_len hbs
              rw [hlen]
              exact ⟨rfl, _, .int _ _, by simp [Builtin.len_, xu hu, goInt]⟩
            case sstr i n l hl hv =>
              obtain ⟨m, hm, h⟩ := ofO_ok h
              injection h with e1 e2
              subst e1; subst e2
              obtain ⟨bs, e, hs⟩ := lenC_ok l.sh hm
              rw [e] at hv
              subst hv
              exact ⟨rfl, _, .int _ _, by simp [Builtin.len_, xu hu, goInt, hs]⟩
            all_goals
              injection h with e1 e2
              subst e1; subst e2
              exact ⟨rfl, _, .int _ _, by first | (simp [Builtin.len_, xu hu, goInt]; done) | (simp [Builtin.len_, xu hu, goInt]; rw [lenL_eq]; rfl)⟩
          case array n e =>
            injection h with e1 e2
            subst e1; subst e2
            refine ⟨rfl, _, .int _ _, ?_⟩
            cases hx <;> first
              | (rename_i i n l hl hv; rcases sv_forms n l.sh with ⟨b, e⟩ | ⟨_, _, e⟩ <;> (rw [e] at hv; subst hv; simp [Builtin.len_, xu hu, goInt]))
              | (rename_i hk; rcases TOk.forms hk with ⟨b, rfl⟩ | ⟨x, rfl⟩ | rfl | ⟨t, u, rfl⟩ <;> simp [Builtin.len_, xu hu, goInt])
              | simp [Builtin.len_, xu hu, goInt]
          case slice e =>
            cases hx <;> first | (cases h; done) | skip
            case anyS q a n c hb =>
              have hrun : (Builtin.len_ ⟨t :: r⟩ ty ⟨[.slice a n c]⟩).run P w = .ok (.int .i64 (n : Int)) w := by simp [Builtin.len_, xu hu, goInt]
              obtain ⟨e1, e2⟩ := lenAny_ok (ρ := ρ) h hb
              exact ⟨e1, _, e2, hrun⟩
            all_goals
              injection h with e1 e2
              subst e1; subst e2
              exact ⟨rfl, _, .int _ _, by simp [Builtin.len_, xu hu, goInt]⟩
          case map k e =>
            cases hx <;> first | (cases h; done) | skip
            · injection h with e1 e2
              subst e1; subst e2
              exact ⟨rfl, _, .int _ _, by simp [Builtin.len_, xu hu, goInt]⟩
            · rename_i r k' hr
              dsimp only at h
              obtain ⟨m, hm, h⟩ := ofO_ok h
              injection h with e1 e2
              subst e1; subst e2
              unfold mapOf at hm
              cases hg : s.heap.get r with
              | none => rw [hg] at hm; cases hm
              | some o =>
                rw [hg] at hm
                cases o <;> first | (cases hm; done) | skip
                rename_i o
                cases o <;> first | (cases hm; done) | skip
                rename_i entries clk
                injection hm with hm
                subst hm
                obtain ⟨o', h1, _, es', rfl, he⟩ := hw.heap _ _ _ hg (by simp) hr
                refine ⟨rfl, _, .int _ _, ?_⟩
                have hlen : ∀ {l l' : List MapEntry}, ERel ρ l l' → l.length = l'.length := by
                  intro l l' h
                  induction h with
                  | nil => rfl
                  | cons _ _ _ _ _ _ ih => simp [ih]
                have := hlen he
                have this' : (es'.length : Int) = (entries.size : Int) := by rw [← this]; simp
                simp [Builtin.len_, xu hu, goInt, getObj, Sem.run, h1, this']

theorem toBytes_cons (v : Value) (l : List Value) : toBytes (v :: l) = (match v, toBytes l with | .int .u8 n, some r => some (UInt8.ofNat n.toNat :: r) | _, _ => none) := rfl
theorem toBytes_ok : ∀ {l : List Value} {bs : List UInt8}, toBytes l = some bs → ∃ ns : List Int, l = ns.map (Value.int .u8) ∧ bs = ns.map fun n => UInt8.ofNat n.toNat
  | [], bs, h => ⟨[], rfl, by simpa [toBytes] using h.symm⟩
  | v :: l, bs, h => by
    rw [toBytes_cons] at h
    cases v <;> first | (simp at h; done) | skip
    rename_i k n
    cases k <;> first | (simp at h; done) | skip
    cases hl : toBytes l with
    | none => rw [hl] at h; simp at h
    | some r =>
      rw [hl] at h
      simp only [Option.some.injEq] at h
      subst h
      obtain ⟨ns, rfl, rfl⟩ := toBytes_ok hl
      exact ⟨n :: ns, rfl, rfl⟩
theorem push_all : ∀ (ns : List Int) (acc : ByteArray), ns.foldl (fun (r : ByteArray) n => r.push (UInt8.ofNat n.toNat)) acc = ⟨acc.data ++ ⟨ns.map fun n => UInt8.ofNat n.toNat⟩⟩
  | [], acc => by simp
  | n :: ns, acc => by
    rw [List.foldl_cons, push_all ns]
    congr 1
    apply Array.ext'
    simp [ByteArray.push]
theorem flats_ints (ns : List Int) (k : IntKind) : flats (ns.map (Value.int k)) = true := by
  induction ns with
  | nil => rfl
  | cons n ns ih => simpa [flats, flat] using ih

theorem rowOf_ok {n size : Nat} {a a' : Addr} {l : List Value} (h : rowOf n size a s = some l) (ha : ARel ρ a a') (hw : WRel P b ρ s w) : ∃ l', LRel ρ l l' ∧ l'.length = n * size ∧ (loadCells a' (n * size)).run P w = .ok ⟨l'⟩ w := by
  unfold rowOf at h
  cases hr : getRow s a with
  | none => rw [hr] at h; cases h
  | some x =>
    obtain ⟨cs, e, lo⟩ := x
    rw [hr] at h
    dsimp only at h
    rw [takeL_eq, dropL_eq, lenL_eq] at h
    cases hb : Nat.beq ((cs.drop a.off).take (n * size)).length (n * size) with
    | false => rw [hb] at h; cases h
    | true =>
      rw [hb] at h
      injection h with h
      subst h
      obtain ⟨k, c, fz, hk, rfl, hg, hc, hrr⟩ := hw.row hr ha
      obtain ⟨h4, h5⟩ := row_sub hrr (n * size) a.off (Nat.eq_of_beq_eq_true hb)
      exact ⟨_, h4, h5, run_cells hc h5⟩

/-- What is turned into another type, but for bytes of a string. -/
theorem doConvert_ok {src dst : TypeId} {x x' v : Value} {s' : St} (h : doConvert P src dst x s = .ok v s') (hx : VRel ρ x x') (hw : WRel P b ρ s w) (hn : ∀ e, P.underlying dst ≠ some (.slice e)) :
    s' = s ∧ QOk P ρ w v (convert src dst x') := by
  have hflat : doFlat P x (convert src dst x) s = .ok v s' → s' = s ∧ QOk P ρ w v (convert src dst x') := fun h => by
    obtain ⟨h1, h2, h3⟩ := doFlat_ok (ρ := ρ) (w := w) (_a' := x') h
    rw [flat_eq hx h2]
    exact ⟨h1, h3⟩
  unfold doConvert at h
  cases hd : P.underlying dst with
  | none => rw [hd] at h; exact hflat h
  | some d =>
    rw [hd] at h
    cases d <;> first | exact absurd hd (hn _) | exact hflat h | skip
    case int k =>
      dsimp only at h
      cases hfl : flat x with
      | true => rw [hfl] at h; exact hflat h
      | false =>
        rw [hfl] at h
        simp only [cond_false] at h
        cases hsrc : P.underlying src with
        | none => rw [hsrc] at h; cases h
        | some d =>
          rw [hsrc] at h
          dsimp only at h
          cases hsy : (isSym x && decide (k = .i64)) with
          | true =>
            rw [hsy] at h
            injection h with e1 e2
            subst e1; subst e2
            simp only [Bool.and_eq_true, decide_eq_true_eq] at hsy
            obtain ⟨hs1, rfl⟩ := hsy
            unfold isSym at hs1
            split at hs1
            · rename_i i z
              simp only [Bool.and_eq_true, Bool.not_eq_true'] at hs1
              have h0 : z ≠ 0 := fun e => by subst e; cases hs1.1
              have h1 := Nat.le_of_ble_eq_true hs1.2
              have hx0 := hx
              cases hx
              rename_i l u hl hu
              have hu2 := hu.2 h0
              refine ⟨rfl, _, hx0, ?_⟩
              have hwr := mx_wrap .i64 u.toNat (by show _ ≤ 9223372036854775807; omega)
              rw [Int.toNat_of_nonneg (by omega)] at hwr
              unfold convert
              simp only [Sem.run_bind, xu hsrc, xu hd, Result.andThen_ok, Conv.intToInt, hwr, Sem.run_pure]
            · cases hs1
          | false =>
            rw [hsy] at h
            simp only [cond_false] at h
            obtain ⟨k', n, rfl, e, hv⟩ := convF_ok h hx
            refine ⟨e, _, hv, ?_⟩
            unfold convert
            simp only [Sem.run_bind, xu hsrc, xu hd, Result.andThen_ok, Conv.intToInt, Sem.run_pure]
    dsimp only at h
    cases hx <;> first | (refine hflat ?_; exact h) | skip
    case sliceE a a' c c' hsp =>
      dsimp only at h
      rw [hsp] at h
      simp only [cond_true] at h
      have h : doNoBytes P src s = .ok v s' := h
      unfold doNoBytes at h
      cases hsrc : P.underlying src with
      | none => rw [hsrc] at h; cases h
      | some d =>
        rw [hsrc] at h
        cases d <;> first | (cases h; done) | skip
        rename_i e
        dsimp only at h
        cases he : P.underlying e with
        | none => rw [he] at h; cases h
        | some d2 =>
          rw [he] at h
          cases d2 <;> first | (cases h; done) | skip
          rename_i k
          cases k <;> first | (cases h; done) | skip
          injection h with e3 e4
          subst e3; subst e4
          refine ⟨rfl, _, .string _, ?_⟩
          rw [run_convert_bytes_string w src dst e (some a') 0 c' hsrc he hd, run_bytesToString w a' 0 c' [] rfl, push_all]
          congr 3
    case slice a a' n c c' ha hc =>
      dsimp only at h
      rw [ha.1] at h
      simp only [Option.isSome_none, cond_false] at h
      unfold doToString at h
      cases hsrc : P.underlying src with
      | none => rw [hsrc] at h; cases h
      | some d =>
        rw [hsrc] at h
        cases d <;> first | (cases h; done) | skip
        rename_i e
        dsimp only at h
        cases he : P.underlying e with
        | none => rw [he] at h; cases h
        | some d2 =>
          rw [he] at h
          cases d2 <;> first | (cases h; done) | skip
          rename_i k
          cases k <;> first | (cases h; done) | skip
          dsimp only at h
          obtain ⟨l, hl, h⟩ := ofO_ok h
          cases hbs : toBytes l with
          | none =>
            rw [hbs] at h
            dsimp only at h
            obtain ⟨ps, hps, h⟩ := ofO_ok h
            obtain ⟨l', h1, h2, h3⟩ := rowOf_ok hl ha hw
            rw [Nat.mul_one] at h3
            obtain ⟨ns, rfl, h5⟩ := txtOfCells_ok hps h1
            have hx5 : TR ps (⟨⟨ns.map fun n => UInt8.ofNat n.toNat⟩⟩ : ByteArray).data.toList := h5
            obtain ⟨es, hv⟩ := mkTxt_ok (ρ := ρ) h hx5
            refine ⟨es, _, hv, ?_⟩
            rw [run_convert_bytes_string w src dst e (some a') n c' hsrc he hd, run_bytesToString w a' n c' ns h3, push_all]
            congr 3
            apply Array.ext'
            simp [ByteArray.empty, ByteArray.emptyWithCapacity]
            rfl
          | some bs =>
          rw [hbs] at h
          dsimp only at h
          injection h with e3 e4
          subst e3; subst e4
          obtain ⟨l', h1, h2, h3⟩ := rowOf_ok hl ha hw
          rw [Nat.mul_one] at h3
          obtain ⟨ns, rfl, rfl⟩ := toBytes_ok hbs
          have hl' := flats_eq h1 (flats_ints ns .u8)
          subst hl'
          refine ⟨rfl, _, .string _, ?_⟩
          rw [run_convert_bytes_string w src dst e (some a') n c' hsrc he hd, run_bytesToString w a' n c' ns h3, push_all]
          congr 3
          apply Array.ext'
          simp [ByteArray.empty, ByteArray.emptyWithCapacity]
          rfl

/-! ### Parts laid together -/
inductive PRel (ρ : Ren) : List (Nat × Value) → List (Nat × Value) → Prop
  | nil : PRel ρ [] []
  | cons (i : Nat) (v v' : Value) (l l' : List (Nat × Value)) (h : VRel ρ v v') (t : PRel ρ l l') : PRel ρ ((i, v) :: l) ((i, v') :: l')
theorem PRel.of_map {f g : Operand → Value} : ∀ (l : List (Nat × Operand)), (∀ p ∈ l, VRel ρ (f p.2) (g p.2)) → PRel ρ (l.map fun p => (p.1, f p.2)) (l.map fun p => (p.1, g p.2))
  | [], _ => .nil
  | p :: l, h => .cons _ _ _ _ _ (h p (by simp)) (PRel.of_map l fun q hq => h q (by simp [hq]))
theorem fold_splice (off : Nat) : ∀ (vs : List Value) (k : Nat) (cells : Array Value), off + k + vs.length ≤ cells.size → (vs.zipIdx k).foldl (fun (cs : Array Value) (p : Value × Nat) => cs.setIfInBounds (off + p.2) p.1) cells = ⟨splice cells.toList (off + k) vs⟩
  | [], k, cells, _ => by simp [splice]
  | v :: vs, k, cells, h => by
    rw [List.length_cons] at h
    rw [List.zipIdx_cons, List.foldl_cons, fold_splice off vs (k + 1) _ (by simp; omega)]
    congr 1
    apply List.ext_getElem?
    intro j
    rw [splice_get (by simp; omega), splice_get (by simp; omega)]
    simp only [Array.toList_setIfInBounds, List.length_cons, List.getElem?_set, Array.length_toList]
    by_cases h1 : j < off + k
    · rw [if_pos h1, if_pos (by omega), if_neg (by omega)]
    · rw [if_neg h1]
      by_cases h2 : j = off + k
      · subst h2
        rw [if_pos (by omega), if_pos rfl, if_pos (by omega), if_pos (by omega)]
        simp
      · rw [if_neg (by omega)]
        by_cases h3 : j < off + (k + 1) + vs.length
        · rw [if_pos h3, if_pos (by omega), show j - (off + k) = (j - (off + (k + 1))) + 1 by omega, List.getElem?_cons_succ]
        · rw [if_neg h3, if_neg (by omega), if_neg (by omega)]
theorem splice_rel {cs cs' vs vs' : List Value} {off : Nat} (hc : LRel ρ cs cs') (hv : LRel ρ vs vs') : LRel ρ (splice cs off vs) (splice cs' off vs') := by
  unfold splice
  rw [← hv.length]
  exact (hc.take off).append (hv.append (hc.drop _))
theorem fill_ok {place place' : Nat → Option (Nat × Nat)} (hp : ∀ i, place' i = place i) : ∀ {parts parts' : List (Nat × Value)}, PRel ρ parts parts' → ∀ {cs cs' out : List Value}, LRel ρ cs cs' → fillL place cs parts = some out → ∃ out', Instr.fill place' ⟨cs'⟩ parts' = some ⟨out'⟩ ∧ LRel ρ out out'
  | _, _, .nil, cs, cs', out, hc, h => by
    injection h with h
    subst h
    exact ⟨cs', rfl, hc⟩
  | _, _, .cons i v v' l l' hv t, cs, cs', out, hc, h => by
    unfold fillL at h
    unfold Instr.fill
    rw [hp i]
    cases hpi : place i with
    | none => rw [hpi] at h; cases h
    | some q =>
      obtain ⟨off, size⟩ := q
      rw [hpi] at h
      dsimp only at h ⊢
      cases hb : (Nat.beq (lenL (cellsOf v)) size && Nat.ble (off + size) (lenL cs)) with
      | false => rw [hb] at h; cases h
      | true =>
        rw [hb] at h
        simp only [cond_true] at h
        simp only [Bool.and_eq_true, lenL_eq] at hb
        have h1 := Nat.eq_of_beq_eq_true hb.1
        have h2 := Nat.le_of_ble_eq_true hb.2
        subst h1
        rw [splice_eq] at h
        have hcr := cells_rel hv
        have hl1 := hcr.length
        have hl2 := hc.length
        have e0 : v'.cells.toList.length = v'.cells.size := Array.length_toList
        have hsz : ¬ (v'.cells.size ≠ (cellsOf v).length ∨ off + v'.cells.size > cs'.length) := by omega
        have hsz' : (decide (v'.cells.size ≠ (cellsOf v).length) || decide (off + v'.cells.size > (⟨cs'⟩ : Array Value).size)) = false := by
          simp only [Bool.or_eq_false_iff, decide_eq_false_iff_not]
          exact ⟨by omega, by show ¬ (off + v'.cells.size > cs'.length); omega⟩
        rw [if_neg (by simpa using hsz')]
        have hf : v'.cells.zipIdx.foldl (fun (cs : Array Value) (x : Value × Nat) => cs.setIfInBounds (off + x.2) x.1) ⟨cs'⟩ = ⟨splice cs' off v'.cells.toList⟩ := by
          rw [← Array.foldl_toList, Array.toList_zipIdx]
          have := fold_splice off v'.cells.toList 0 ⟨cs'⟩ (by show off + 0 + v'.cells.toList.length ≤ cs'.length; have e : v'.cells.toList.length = v'.cells.size := Array.length_toList; omega)
          simpa using this
        have := fill_ok hp t (splice_rel (off := off) hc hcr) h
        rw [← hf] at this
        exact this
end
end Go.Proofs.YtkcgggobcnlnpaaGreatDoor.X
