/- A runner for closed calls, part 4: Ye Yf. -/
import Derived.Test.YtdhkebolenbpiaaGreatDoorKnc
namespace Go.Proofs.YtdhkebolenbpiaaGreatDoor.X
open Go.RowKit

section
variable {P : Program} {b : Base} {ρ : Ren} {s : St} {w : World}

theorem itemB_toNat (V d : Nat) (h : ¬ d < 256) (h2 : d < 512) : (itemB V d).toNat = clampN 97 122 (fldQ d V / 2 ^ 0 % 2 ^ 8) := by
  unfold itemB
  rw [if_neg h, if_pos h2]
  have g := clamp_in (lo := 97) (hi := 122) (by omega) (fldQ d V / 2 ^ 0 % 2 ^ 8)
  rw [UInt8.toNat_ofNat']
  omega
theorem itemB_toNat2 (V d : Nat) (h2 : ¬ d < 512) : (itemB V d).toNat = clampN 0 255 (fldQ d V / 2 ^ 0 % 2 ^ 8) := by
  unfold itemB
  rw [if_neg (by omega), if_neg h2]
  have g := clamp_in (lo := 0) (hi := 255) (by omega) (fldQ d V / 2 ^ 0 % 2 ^ 8)
  rw [UInt8.toNat_ofNat']
  omega
theorem itemV_ok {i d : Nat} {l : Loc} {v : Value} (h : itemV i d = some v) (hl : ρ i = some l) : VRel ρ v (.int .u8 (itemB l.sh d).toNat) := by
  unfold itemV at h
  cases hb : Nat.blt d 256 with
  | true =>
    rw [hb] at h
    injection h with h
    subst h
    have hd : d < 256 := Nat.le_of_ble_eq_true hb
    have : (itemB l.sh d).toNat = d := by
      unfold itemB
      rw [if_pos hd, UInt8.toNat_ofNat']
      omega
    rw [this]
    exact .int _ _
  | false =>
    rw [hb] at h
    have hd : ¬ d < 256 := fun hh => by rw [show Nat.blt d 256 = true from Nat.ble_eq_true_of_le hh] at hb; cases hb
    simp only [cond_false] at h
    cases hb2 : Nat.blt d 512 with
    | true =>
      rw [hb2] at h
      simp only [cond_true] at h
      have hd2 : d < 512 := Nat.le_of_ble_eq_true hb2
      obtain ⟨n, rfl, f0, f1, f2, f3, f4, f5, f6⟩ := mkN_ok h
      refine .sstr i n l _ hl ?_
      have e := sv_fld l.sh f0
      rw [f1, f2, f3, f4, f5, f6] at e
      exact (congrArg (fun z : Nat => Value.int .u8 (z : Int)) (itemB_toNat l.sh d hd hd2)).trans e.symm
    | false =>
      rw [hb2] at h
      simp only [cond_false] at h
      have hd2 : ¬ d < 512 := fun hh => by rw [show Nat.blt d 512 = true from Nat.ble_eq_true_of_le hh] at hb2; cases hb2
      obtain ⟨n, rfl, f0, f1, f2, f3, f4, f5, f6⟩ := mkN_ok h
      refine .sstr i n l _ hl ?_
      have e := sv_fld l.sh f0
      rw [f1, f2, f3, f4, f5, f6] at e
      exact (congrArg (fun z : Nat => Value.int .u8 (z : Int)) (itemB_toNat2 l.sh d hd2)).trans e.symm
theorem itemsV_ok {i : Nat} {l : Loc} (hl : ρ i = some l) : ∀ {ds : List Nat} {vs : List Value}, itemsV i ds = some vs → LRel ρ vs (ds.map fun d => .int .u8 (itemB l.sh d).toNat)
  | [], vs, h => by
    have h : some [] = some vs := h
    injection h with h
    subst h
    exact .nil
  | d :: ds, vs, h => by
    have h : (match itemV i d, itemsV i ds with | some v, some r => some (v :: r) | _, _ => none) = some vs := h
    split at h
    · rename_i v r h1 h2
      injection h with h
      subst h
      exact .cons _ _ _ _ (itemV_ok h1 hl) (itemsV_ok hl h2)
    · cases h
theorem itemOf_ok {i d : Nat} {l : Loc} {v v' : Value} (h : itemOf i v = some d) (hl : ρ i = some l) (hv : VRel ρ v v') : v' = .int .u8 (itemB l.sh d).toNat := by
  unfold itemOf at h
  split at h
  · rename_i n
    obtain ⟨g, h⟩ := bif_some h
    injection h with h
    subst h
    have hd : n < 256 := Nat.le_of_ble_eq_true g
    cases hv
    have : (itemB l.sh n).toNat = n := by
      unfold itemB
      rw [if_pos hd, UInt8.toNat_ofNat']
      omega
    rw [this]
    rfl
  · rename_i j n
    obtain ⟨g, h⟩ := bif_some h
    rw [Bool.and_eq_true] at g
    have e := Nat.eq_of_beq_eq_true g.1
    subst e
    split at h
    · rename_i i2 m hm
      obtain ⟨g2, h⟩ := bif_some h
      have e := Nat.eq_of_beq_eq_true g2
      subst e
      injection h with h
      have k := itemV_ok hm hl
      rw [h] at k
      cases hv with
      | sstr _ _ l1 _ h1 h2 =>
      cases k with
      | sstr _ _ l2 _ h3 h4 =>
      have hj : i2 = j := by
        unfold itemV at hm
        cases hb : Nat.blt (nQ m) 256 with
        | true => rw [hb] at hm; injection hm with hm; cases hm
        | false =>
          rw [hb] at hm
          simp only [cond_false] at hm
          cases hb2 : Nat.blt (nQ m) 512 with
          | true => rw [hb2] at hm; obtain ⟨_, e, _⟩ := mkN_ok hm; injection e
          | false => rw [hb2] at hm; obtain ⟨_, e, _⟩ := mkN_ok hm; injection e
      subst hj
      rw [h1] at h3
      injection h3 with h3
      subst h3
      rw [h2, ← h4]
    · cases h
  · cases h
theorem itemsOf_ok {i : Nat} {l : Loc} (hl : ρ i = some l) : ∀ {vs vs' : List Value} {ds : List Nat}, itemsOf i vs = some ds → LRel ρ vs vs' → vs' = ds.map fun d => .int .u8 (itemB l.sh d).toNat
  | [], _, ds, h, hr => by
    have h : some [] = some ds := h
    injection h with h
    subst h
    cases hr
    rfl
  | v :: vs, _, ds, h, hr => by
    have h : (match itemOf i v, itemsOf i vs with | some d, some r => some (d :: r) | _, _ => none) = some ds := h
    cases hr with
    | cons _ v' _ l' hv ht =>
    split at h
    · rename_i d r h1 h2
      injection h with h
      subst h
      rw [itemsOf_ok hl h2 ht, itemOf_ok h1 hl hv]
      rfl
    · cases h
theorem symOf_mem {i : Nat} : ∀ {l : List Value}, symOf l = some i → ∃ n, Value.complex .f64 i n ∈ l
  | [], h => by cases h
  | v :: l, h0 => by
    change (match (motive := Value → Option Nat) v with | .complex .f64 i _ => some i | _ => symOf l) = some i at h0
    split at h0
    · rename_i j n
      injection h0 with h0
      subst h0
      exact ⟨n, by simp⟩
    · obtain ⟨n, hn⟩ := symOf_mem h0
      exact ⟨n, by simp [hn]⟩
theorem LRel.mem {l l' : List Value} (h : LRel ρ l l') {v : Value} (hv : v ∈ l) : ∃ v', VRel ρ v v' := by
  induction l generalizing l' with
  | nil => cases hv
  | cons x l ih =>
    cases h with
    | cons _ x' _ m h1 h2 =>
      rcases List.mem_cons.1 hv with rfl | hv
      · exact ⟨x', h1⟩
      · exact ih h2 hv
theorem sameNs_eq : ∀ {l m : List Nat}, sameNs l m = true → l = m
  | [], [], _ => rfl
  | [], _ :: _, h => by cases h
  | _ :: _, [], h => by cases h
  | a :: l, b :: m, h => by
    have h : (Nat.beq a b && sameNs l m) = true := h
    rw [Bool.and_eq_true] at h
    rw [Nat.eq_of_beq_eq_true h.1, sameNs_eq h.2]
theorem txtOfFlds_ok {l l' : List Value} {v : Value} (h : txtOfFlds l = some v) (hl : LRel ρ l l') : ∃ bs : ByteArray, VRel ρ v (.string bs) ∧ l' = bs.data.toList.map fun b => .int .u8 (b.toNat : Nat) := by
  unfold txtOfFlds at h
  split at h
  · cases h
  · rename_i i hi
    split at h
    · cases h
    · rename_i ds hds
      obtain ⟨g, h⟩ := bif_some h
      rw [Bool.and_eq_true] at g
      injection h with h
      subst h
      obtain ⟨n, hn⟩ := symOf_mem hi
      obtain ⟨v', hv'⟩ := hl.mem hn
      cases hv' with
      | sstr _ _ loc _ hlo hv =>
      refine ⟨txtB (txtCode ds) loc.sh, .sstr i _ loc _ hlo (sv_txt _ g.1).symm, ?_⟩
      rw [itemsOf_ok hlo hds hl]
      unfold txtB
      rw [sameNs_eq g.2]
      simp
theorem lenC_ok {n m : Nat} (V : Nat) (h : lenC n = some m) : ∃ bs : ByteArray, svV n V = .string bs ∧ bs.size = m := by
  unfold lenC at h
  cases hb : Nat.blt n FLD with
  | true =>
    rw [hb] at h
    injection h with h
    subst h
    exact ⟨_, sv_old V (Nat.le_of_ble_eq_true hb), letS_size _ _⟩
  | false =>
    rw [hb] at h
    obtain ⟨g, h⟩ := bif_some h
    injection h with h
    subst h
    refine ⟨_, sv_txt V g, ?_⟩
    rw [lenL_eq]
    simp [txtB, ByteArray.size]
theorem sv_forms (n V : Nat) : (∃ b, svV n V = .string b) ∨ ∃ k x, svV n V = .int k x := by
  cases h : isNum n with
  | false => exact .inl (sv_str V h)
  | true =>
    rw [sv_num V h, numV]
    split
    · exact .inr ⟨_, _, rfl⟩
    · exact .inr ⟨_, _, rfl⟩
theorem TOk.forms {c : Nat} {v : Value} (h : TOk c v) : (∃ b, v = .string b) ∨ (∃ x, v = .int .i64 x) ∨ v = .nilIface ∨ ∃ t u, v = .iface t u := by
  rcases h with ⟨_, b, e, _⟩ | ⟨_, x, e⟩ | ⟨_, e | ⟨t, u, e⟩⟩
  · exact .inl ⟨b, e⟩
  · exact .inr (.inl ⟨x, e⟩)
  · exact .inr (.inr (.inl e))
  · exact .inr (.inr (.inr ⟨t, u, e⟩))
theorem cells_rel {v v' : Value} (h : VRel ρ v v') : LRel ρ (cellsOf v) v'.cells.toList := by
  cases h <;> first
    | (rename_i i n l hl hv; have hr : VRel ρ (.complex .f64 i n) v' := .sstr i n l v' hl hv; rcases sv_forms n l.sh with ⟨b, e⟩ | ⟨k, x, e⟩ <;> (rw [e] at hv; subst hv; exact .cons _ _ _ _ hr .nil))
    | (rename_i hk; rcases TOk.forms hk with ⟨b, rfl⟩ | ⟨x, rfl⟩ | rfl | ⟨t, u, rfl⟩ <;> exact .cons _ _ _ _ (.txt _ _ hk) .nil)
    | exact .cons _ _ _ _ (.sliceE _ _ _ _ (by assumption)) .nil
    | exact .cons _ _ _ _ (by constructor <;> assumption) .nil
    | (rename_i h; exact h)
    | skip
theorem cellOk_rel {v v' : Value} (h : VRel ρ v v') (k : cellOk v = true) : cellOk v' = true := by
  cases h <;> first | rfl | exact k | (rename_i i n l hl hv; rcases sv_forms n l.sh with ⟨b, e⟩ | ⟨_, _, e⟩ <;> (rw [e] at hv; subst hv; rfl)) | (rename_i hk; rcases TOk.forms hk with ⟨b, rfl⟩ | ⟨x, rfl⟩ | rfl | ⟨t, u, rfl⟩ <;> rfl)
theorem cellsOk_all : ∀ {l : List Value}, cellsOk l = true → ∀ v ∈ l, cellOk v = true
  | [], _, _, h => by cases h
  | x :: l, h, v, hv => by
    have h' : (cellOk x && cellsOk l) = true := h
    simp only [Bool.and_eq_true] at h'
    rcases List.mem_cons.1 hv with rfl | hv
    · exact h'.1
    · exact cellsOk_all h'.2 v hv
theorem cellsOk_rel : ∀ {l l' : List Value}, LRel ρ l l' → cellsOk l = true → ∀ v ∈ l', cellOk v = true
  | _, _, .nil, _, _, h => by cases h
  | _, _, .cons x x' l l' h t, k, v, hv => by
    have k' : (cellOk x && cellsOk l) = true := k
    simp only [Bool.and_eq_true] at k'
    rcases List.mem_cons.1 hv with rfl | hv
    · exact cellOk_rel h k'.1
    · exact cellsOk_rel t k'.2 v hv

def splice (l : List Value) (a : Nat) (m : List Value) : List Value := l.take a ++ (m ++ l.drop (a + m.length))
theorem splice_length {l m : List Value} {a : Nat} (h : a + m.length ≤ l.length) : (splice l a m).length = l.length := by
  simp only [splice, List.length_append, List.length_take, List.length_drop]; omega
theorem splice_get {l m : List Value} {a : Nat} (h : a + m.length ≤ l.length) (j : Nat) : (splice l a m)[j]? = if j < a then l[j]? else if j < a + m.length then m[j - a]? else l[j]? := by
  have ht : (l.take a).length = a := by rw [List.length_take]; omega
  unfold splice
  by_cases h1 : j < a
  · rw [if_pos h1, List.getElem?_append_left (by omega), List.getElem?_take, if_pos h1]
  · rw [if_neg h1, List.getElem?_append_right (by omega), ht]
    by_cases h2 : j < a + m.length
    · rw [if_pos h2, List.getElem?_append_left (by omega)]
    · rw [if_neg h2, List.getElem?_append_right (by omega), List.getElem?_drop]
      congr 1; omega
theorem row_splice {k : Loc} {cs : List Value} {e : TypeId} {l : Bool} {c : Array Value} {fz : Nat × Nat} (h : RowRel P ρ k cs e l c fz) {off : Nat} {vs vs' : List Value} (hv : LRel ρ vs vs') (hn : off + vs.length ≤ cs.length) :
    RowRel P ρ k (splice cs off vs) e l ⟨splice c.toList (k.sh + off) vs'⟩ fz ∧ k.sh + off + vs'.length ≤ c.size := by
  have hlen := hv.length
  have hfit : k.sh + off + vs'.length ≤ c.toList.length := by have := h.2.1; have e : c.toList.length = c.size := Array.length_toList; omega
  refine ⟨⟨fun j hj => h.1 j ?_, ?_, fun j v hj => ?_, fun hl n hz => ?_⟩, by simpa using hfit⟩
  · simpa [splice_length hfit] using hj
  · rw [splice_length hn]; simpa [splice_length hfit] using h.2.1
  · rw [splice_get hn] at hj
    have hg : (⟨splice c.toList (k.sh + off) vs'⟩ : Array Value)[k.sh + j]? = (splice c.toList (k.sh + off) vs')[k.sh + j]? := by simp
    rw [hg, splice_get hfit]
    by_cases h1 : j < off
    · rw [if_pos h1] at hj
      rw [if_pos (by omega)]
      simpa using h.2.2.1 j v hj
    · rw [if_neg h1] at hj
      rw [if_neg (by omega)]
      by_cases h2 : j < off + vs.length
      · rw [if_pos h2] at hj
        rw [if_pos (by omega)]
        obtain ⟨v', h3, h4⟩ := hv.get hj
        exact ⟨v', by rw [show k.sh + j - (k.sh + off) = j - off by omega]; exact h3, h4⟩
      · rw [if_neg h2] at hj
        rw [if_neg (by omega)]
        simpa using h.2.2.1 j v hj
  · have := h.2.2.2 hl n hz
    rw [splice_length hn]
    simpa [splice_length hfit] using this

theorem setBlk_self {g : Nat} {o : Obj} (h : w.heap[g]? = some o) : setBlk w g o = w := by
  have : w.heap.setIfInBounds g o = w.heap := by
    apply Array.ext_getElem?
    intro i
    rw [Array.getElem?_setIfInBounds]
    by_cases he : g = i
    · subst he
      rw [if_pos rfl, if_pos (Array.getElem?_eq_some_iff.1 h).1, h]
    · rw [if_neg he]
  unfold setBlk
  rw [this]
theorem setBlk_setBlk (w : World) (g : Nat) (o o' : Obj) : setBlk (setBlk w g o) g o' = setBlk w g o' := by
  unfold setBlk
  simp
theorem setCell_blk {g o : Nat} {c : Array Value} {e : TypeId} {fz : Nat × Nat} (h : w.heap[g]? = some (.cells c e fz)) (v : Value) : w.setCell ⟨g, o, none⟩ v = setBlk w g (.cells (c.setIfInBounds o v) e fz) := by
  have hlt := (Array.getElem?_eq_some_iff.1 h).1
  unfold World.setCell setBlk
  congr 1
  apply Array.ext_getElem?
  intro i
  rw [Array.getElem?_modify, Array.getElem?_setIfInBounds]
  by_cases he : g = i
  · subst he
    have hx : w.heap[g] = .cells c e fz := by
      have := Array.getElem?_eq_getElem hlt
      rw [h] at this
      exact (Option.some.inj this).symm
    simp [hlt, hx]
  · simp [he]
theorem oneCell_of {v : Value} (h : cellOk v = true) : v.oneCell' = true := by
  cases v <;> first | rfl | cases h
theorem run_storeRow (g o : Nat) (e : TypeId) (fz : Nat × Nat) : ∀ (vs : List Value) (i : Nat) (c : Array Value) (w : World), w.heap[g]? = some (.cells c e fz) → (∀ j, j < c.size → ¬ (fz.1 ≤ j ∧ j < fz.2)) → o + i + vs.length ≤ c.size → (∀ v ∈ vs, cellOk v = true) →
    (storeCells ⟨g, o, none⟩ vs i).run P w = .ok () (setBlk w g (.cells ⟨splice c.toList (o + i) vs⟩ e fz))
  | [], i, c, w, hg, _, _, _ => by
    simp only [storeCells, Sem.run_pure, splice, List.length_nil, Nat.add_zero, List.nil_append, List.take_append_drop]
    rw [setBlk_self hg]
  | v :: vs, i, c, w, hg, hf, hl, hv => by
    rw [List.length_cons] at hl
    have hcell : w.cell? ⟨g, o + i, none⟩ = some (c[o + i]'(by omega)) := by rw [cell_of hg]; exact Array.getElem?_eq_getElem _
    have hfz : w.frozen? ⟨g, o + i, none⟩ = false := by
      have := hf (o + i) (by omega)
      simp only [World.frozen?, hg]
      simpa using this
    have hs := run_store P w ⟨g, o + i, none⟩ v .plain (oneCell_of (hv v (by simp)))
    rw [hcell, hfz, setCell_blk hg] at hs
    simp only [storeCells, Sem.run_bind, addr_add, hs, Bool.false_eq_true, if_false, Result.andThen_ok]
    have hg2 : (setBlk w g (.cells (c.setIfInBounds (o + i) v) e fz)).heap[g]? = some (.cells (c.setIfInBounds (o + i) v) e fz) := by
      rw [heap_setBlk, if_pos rfl, if_pos (Array.getElem?_eq_some_iff.1 hg).1]
    have ih := run_storeRow g o e fz vs (i + 1) (c.setIfInBounds (o + i) v) _ hg2 (by simpa using hf) (by simp; omega) fun u hu => hv u (by simp [hu])
    rw [ih, setBlk_setBlk]
    congr 4
    apply List.ext_getElem?
    intro j
    rw [splice_get (by simp; omega), splice_get (by simp; omega)]
    simp only [Array.toList_setIfInBounds, List.length_cons, List.getElem?_set, Array.length_toList]
    by_cases h1 : j < o + i
    · rw [if_pos h1, if_pos (by omega), if_neg (by omega)]
    · rw [if_neg h1]
      by_cases h2 : j = o + i
      · subst h2
        rw [if_pos (by omega), if_pos rfl, if_pos (by omega), if_pos (by omega)]
        simp
      · rw [if_neg (by omega)]
        by_cases h3 : j < o + (i + 1) + vs.length
        · rw [if_pos h3, if_pos (by omega), show j - (o + i) = (j - (o + (i + 1))) + 1 by omega, List.getElem?_cons_succ]
        · rw [if_neg h3, if_neg (by omega), if_neg (by omega)]

/-- A row is written in part. -/
theorem WRel.splice (hw : WRel P b ρ s w) {a a' : Addr} {cs : List Value} {e : TypeId} {l : Bool} (hr : getRow s a = some (cs, e, l)) (ha : ARel ρ a a') (hG : b.G ≤ a.block) {vs vs' : List Value} (hv : LRel ρ vs vs') (hok : cellsOk vs = true)
    (off : Nat) (hn : off + vs.length ≤ cs.length) (j : Nat) (hj : a.off + j = off) :
    ∃ w', Ok P b ρ s ρ (setRow s a.block (splice cs off vs) e l) w' ∧ (storeCells (a'.add j) vs').run P w = .ok () w' := by
  obtain ⟨k, c, fz, hk, rfl, hg, hc, hrr⟩ := hw.row hr ha
  obtain ⟨h1, h2⟩ := row_splice hrr hv hn
  refine ⟨_, hw.set hg (by simp) hk hG ⟨_, fz, rfl, h1⟩, ?_⟩
  subst hj
  rw [addr_add]
  have := run_storeRow (P := P) k.blk (k.sh + a.off + j) e fz vs' 0 c w hc hrr.1 (by simpa [Nat.add_assoc] using h2) (cellsOk_rel hv hok)
  simpa [Nat.add_assoc] using this
theorem splice_eq (cs : List Value) (off : Nat) (vs : List Value) : appL (takeL off cs) (appL vs (dropL (off + vs.length) cs)) = splice cs off vs := by
  rw [appL_eq, appL_eq, takeL_eq, dropL_eq]; rfl
theorem set_splice {cs : List Value} {off : Nat} (v : Value) (h : off < cs.length) : cs.set off v = splice cs off [v] := by
  apply List.ext_getElem?
  intro j
  rw [splice_get (by simp; omega), List.getElem?_set]
  by_cases h1 : off = j
  · subst h1; rw [if_pos rfl, if_pos h, if_neg (by omega), if_pos (by simp)]; simp
  · rw [if_neg h1]
    by_cases h2 : j < off
    · rw [if_pos h2]
    · rw [if_neg h2, if_neg (by simp; omega)]
theorem doStore_ok {t : TypeId} {p p' v v' r : Value} {s' : St} (h : doStore P b.G t p v s = .ok r s') (hp : VRel ρ p p') (hv : VRel ρ v v') (hw : WRel P b ρ s w) :
    r = undef ∧ ∃ w', Ok P b ρ s ρ s' w' ∧ (Instr.storeAt t p' v').run P w = .ok () w' := by
  unfold doStore at h
  cases hp <;> first | (cases h; done) | skip
  rename_i a a' ha
  dsimp only at h
  cases hr : getRow s a with
  | none => rw [hr] at h; cases h
  | some x =>
    obtain ⟨cs, e, l⟩ := x
    rw [hr] at h
    dsimp only at h
    cases hz : szT P t with
    | none => rw [hz] at h; cases h
    | some n =>
      rw [hz] at h
      dsimp only at h
      obtain ⟨h1, h⟩ := bif_ok h
      simp only [Bool.and_eq_true, lenL_eq] at h1
      obtain ⟨⟨hG, hok⟩, hn, hfit⟩ := h1
      have hn := Nat.eq_of_beq_eq_true hn
      have hfit := Nat.le_of_ble_eq_true hfit
      have hcr := cells_rel hv
      have hsz : v'.cells.size = n := by rw [← hn, hcr.length, Array.length_toList]
      obtain ⟨w', h2, h3⟩ := hw.splice hr ha (Nat.le_of_ble_eq_true hG) hcr hok a.off (by omega) 0 rfl
      have h3' : (storeCells a' v'.cells.toList).run P w = .ok () w' := by simpa [Addr.add] using h3
      have hrun : (Instr.storeAt t (.pointer (some a')) v').run P w = .ok () w' := by
        simp [Instr.storeAt, Instr.sureAddr, storeVar, xs hz, hsz, h3']
      cases h1 : Nat.beq n 1 with
      | true =>
        rw [h1] at h
        simp only [cond_true] at h
        have hn1 := Nat.eq_of_beq_eq_true h1
        cases hvs : cellsOf v with
        | nil => rw [hvs] at h; cases h
        | cons x l' =>
          cases l' with
          | cons _ _ => rw [hvs] at h; cases h
          | nil =>
            rw [hvs] at h h2
            injection h with h4 h5
            subst h4; subst h5
            rw [setL_eq, set_splice _ (by omega)]
            exact ⟨rfl, w', h2, hrun⟩
      | false =>
        rw [h1] at h
        simp only [cond_false] at h
        injection h with h4 h5
        subst h4; subst h5
        rw [← hn, splice_eq]
        exact ⟨rfl, w', h2, hrun⟩
end
end Go.Proofs.YtdhkebolenbpiaaGreatDoor.X

namespace Go.Proofs.YtdhkebolenbpiaaGreatDoor.X
open Go.RowKit

section
variable {P : Program} {b : Base} {ρ : Ren} {s : St} {w : World}

def ORelV (ρ : Ren) : Option Value → Option Value → Prop
  | none, o => o = none
  | some v, o => ∃ v', o = some v' ∧ VRel ρ v v'
theorem natOf_ok {d n : Nat} {o o' : Option Value} (h : natOf d o = some n) (hr : ORelV ρ o o') : o' = o ∧ (o = none ∧ n = d ∨ ∃ k i, o = some (.int k i) ∧ 0 ≤ i ∧ n = i.toNat) := by
  cases o with
  | none => simp [natOf] at h; exact ⟨hr, .inl ⟨rfl, h.symm⟩⟩
  | some v =>
    obtain ⟨v', rfl, hv⟩ := hr
    cases hv <;> simp only [natOf] at h <;> first | (cases h; done) | skip
    rename_i k i
    cases hd : decide (0 ≤ i) with
    | false => rw [hd] at h; cases h
    | true =>
      rw [hd] at h
      injection h with h
      exact ⟨rfl, .inr ⟨k, i, rfl, by simpa using hd, h.symm⟩⟩
end
end Go.Proofs.YtdhkebolenbpiaaGreatDoor.X
namespace Go.Proofs.YtdhkebolenbpiaaGreatDoor.X
open Go.RowKit
section
variable {P : Program} {b : Base} {ρ : Ren} {s : St} {w : World}
theorem xb {k : IntKind} {i : Int} {y : Nat} {code : BoundsCode} (h0 : 0 ≤ i) (h1 : i.toNat ≤ y) (w : World) : (Instr.sliceBound (.int k i) y code).run P w = .ok i.toNat w := by
  have : i ≤ (y : Int) := by omega
  simp [Instr.sliceBound, asIntOf, h0, this]
/-- The bounds, without a third one. -/
theorem run_bounds2 (f : Bool) {len cap l h : Nat} {lo hi : Option Value} (hl : lo = none ∧ l = 0 ∨ ∃ k i, lo = some (.int k i) ∧ 0 ≤ i ∧ l = i.toNat) (hh : hi = none ∧ h = len ∨ ∃ k i, hi = some (.int k i) ∧ 0 ≤ i ∧ h = i.toNat)
    (h1 : l ≤ h) (h2 : h ≤ cap) (w : World) : (Instr.sliceBounds f len cap lo hi none).run P w = .ok (l, h, cap) w := by
  rcases hl with ⟨rfl, rfl⟩ | ⟨k, i, rfl, hi0, rfl⟩ <;> rcases hh with ⟨rfl, rfl⟩ | ⟨k', i', rfl, hi0', rfl⟩ <;>
    simp [Instr.sliceBounds, *, xb]
theorem run_bounds3 (f : Bool) {len cap l h : Nat} {lo hi : Option Value} {km : IntKind} {m : Int} (hl : lo = none ∧ l = 0 ∨ ∃ k i, lo = some (.int k i) ∧ 0 ≤ i ∧ l = i.toNat) (hh : ∃ k i, hi = some (.int k i) ∧ 0 ≤ i ∧ h = i.toNat)
    (h1 : l ≤ h) (h2 : h ≤ m.toNat) (h0 : 0 ≤ m) (h3 : m.toNat ≤ cap) (w : World) : (Instr.sliceBounds f len cap lo hi (some (.int km m))).run P w = .ok (l, h, m.toNat) w := by
  obtain ⟨k', i', rfl, hi0', rfl⟩ := hh
  rcases hl with ⟨rfl, rfl⟩ | ⟨k, i, rfl, hi0, rfl⟩ <;>
    simp [Instr.sliceBounds, *, xb]
theorem isInf_sub {c l : Nat} (h : isInf c = false) : isInf (c - l) = false := by
  unfold isInf at *
  cases hb : Nat.ble (2 ^ 63) (c - l) with
  | false => rfl
  | true =>
    have := Nat.le_of_ble_eq_true hb
    rw [Nat.ble_eq_true_of_le (by omega)] at h
    cases h
theorem ARel.base {a a' : Addr} (h : ARel ρ a a') (c : Prop) [Decidable c] (cb : Bool) (hc : cb = decide c) (n : Nat) : ARel ρ (baseAt cb a n) (if c then a' else a'.add n) := by
  subst hc
  unfold baseAt
  by_cases hc : c
  · simp [hc]; exact h
  · simp [hc]; exact h.add n
theorem run_slice_at {t elem : TypeId} {size : Nat} {a' : Option Addr} {len cap l h m : Nat} {lo hi mx : Option Value} (hu : P.underlying t = some (.slice elem)) (hz : szT P elem = some size)
    (hb : ∀ w, (Instr.sliceBounds true len cap lo hi mx).run P w = .ok (l, h, m) w) (w : World) :
    (Instr.sliceAt t (.slice a' len cap) lo hi mx).run P w = .ok (.slice (if m = l then a' else a'.map (·.add (l * size))) (h - l) (m - l)) w := by
  simp [Instr.sliceAt, Instr.slice, xu hu, hb, xs hz]

theorem doSlice_ok {t : TypeId} {x x' v : Value} {lo hi mx lo' hi' mx' : Option Value} {s' : St} (h : doSlice P t x lo hi mx s = .ok v s') (hx : VRel ρ x x') (hlo : ORelV ρ lo lo') (hhi : ORelV ρ hi hi') (hmx : ORelV ρ mx mx') (hw : WRel P b ρ s w) :
    s' = s ∧ QOk P ρ w v (Instr.sliceAt t x' lo' hi' mx') := by
  unfold doSlice at h
  cases hu : P.underlying t with
  | none => rw [hu] at h; cases h
  | some d =>
    rw [hu] at h
    cases d <;> first | (cases h; done) | skip
    case string =>
      cases hx <;> first | (cases h; done) | skip
      case txt c hk =>
        dsimp only at h
        cases h1 : natOf 0 lo with
        | none => rw [h1] at h; cases h
        | some l =>
          cases h2 : natOf (lenL (tL c)) hi with
          | none => rw [h1, h2] at h; cases h
          | some hh =>
            cases mx with
            | some _ => rw [h1, h2] at h; cases h
            | none =>
              rw [h1, h2] at h
              dsimp only at h
              obtain ⟨h3, h⟩ := bif_ok h
              simp only [Bool.and_eq_true] at h3
              have g0 := Nat.eq_of_beq_eq_true h3.1
              have g1 := Nat.le_of_ble_eq_true h3.2.1
              have g2 := Nat.le_of_ble_eq_true h3.2.2
              obtain ⟨bs, rfl, hbs⟩ : ∃ bs : ByteArray, x' = .string bs ∧ TR (tL c) bs.data.toList := by
                rcases hk with ⟨_, bs, e, hb⟩ | ⟨e, _⟩ | ⟨e, _⟩
                · exact ⟨bs, e, hb⟩
                · omega
                · omega
              have hlen : lenL (tL c) = bs.size := by rw [lenL_eq]; exact TR_len hbs
              rw [hlen] at h2 g2
              obtain ⟨rfl, k1⟩ := natOf_ok h1 hlo
              obtain ⟨rfl, k2⟩ := natOf_ok h2 hhi
              have hm : mx' = none := hmx
              subst hm
              rw [takeL_eq, dropL_eq] at h
              have hx2 : TR (((tL c).drop l).take (hh - l)) (bs.extract l hh).data.toList := by
                have e : (bs.extract l hh).data.toList = (bs.data.toList.drop l).take (hh - l) := by
                  rw [ByteArray.data_extract, Array.toList_extract, List.extract_eq_take_drop]
                rw [e]
                exact TR_take _ (TR_drop _ hbs)
              obtain ⟨e, hv⟩ := mkTxt_ok (ρ := ρ) h hx2
              refine ⟨e, _, hv, ?_⟩
              have := run_bounds2 (P := P) false k1 k2 g1 g2 w
              simp [Instr.sliceAt, Instr.slice, xu hu, this]
      rename_i bs
      dsimp only at h
      cases h1 : natOf 0 lo with
      | none => rw [h1] at h; cases h
      | some l =>
        cases h2 : natOf (lenL bs.data.toList) hi with
        | none => rw [h1, h2] at h; cases h
        | some hh =>
          cases mx with
          | some _ => rw [h1, h2] at h; cases h
          | none =>
            rw [h1, h2] at h
            have hsz : lenL bs.data.toList = bs.size := by rw [lenL_eq]; rfl
            rw [hsz] at h2 h
            obtain ⟨h3, h⟩ := bif_ok h
            rw [forceL_eq, takeL_eq, dropL_eq] at h
            have hex : (⟨⟨(bs.data.toList.drop l).take (hh - l)⟩⟩ : ByteArray) = bs.extract l hh := by
              have e : (bs.extract l hh).data.toList = (bs.data.toList.drop l).take (hh - l) := by
                rw [ByteArray.data_extract, Array.toList_extract, List.extract_eq_take_drop]
              rw [← e]
            rw [hex] at h
            injection h with h4 h5
            subst h4; subst h5
            simp only [Bool.and_eq_true] at h3
            obtain ⟨rfl, k1⟩ := natOf_ok h1 hlo
            obtain ⟨rfl, k2⟩ := natOf_ok h2 hhi
            have hm : mx' = none := hmx
            subst hm
            refine ⟨rfl, _, .string _, ?_⟩
            have := run_bounds2 (P := P) false k1 k2 (Nat.le_of_ble_eq_true h3.1) (Nat.le_of_ble_eq_true h3.2) w
            simp [Instr.sliceAt, Instr.slice, xu hu, this]
    case slice elem =>
      cases hx <;> first | (cases h; done) | skip
      case sliceN len cap =>
        dsimp only at h
        cases hz : szT P elem with
        | none => rw [hz] at h; cases h
        | some size =>
          cases h1 : natOf 0 lo with
          | none => rw [hz, h1] at h; cases h
          | some l =>
            cases h2 : natOf len hi with
            | none => rw [hz, h1, h2] at h; cases h
            | some hh =>
              obtain ⟨rfl, k1⟩ := natOf_ok h1 hlo
              obtain ⟨rfl, k2⟩ := natOf_ok h2 hhi
              cases mx with
              | none =>
                have hm : mx' = none := hmx
                subst hm
                rw [hz, h1, h2] at h
                obtain ⟨h3, h⟩ := bif_ok h
                injection h with h4 h5
                subst h4; subst h5
                simp only [Bool.and_eq_true] at h3
                have e1 := Nat.eq_of_beq_eq_true h3.1.1
                have e2 := Nat.eq_of_beq_eq_true h3.1.2
                have e3 := Nat.eq_of_beq_eq_true h3.2.1
                have e4 := Nat.eq_of_beq_eq_true h3.2.2
                subst e1; subst e2; subst e3; subst e4
                refine ⟨rfl, _, .sliceN _ _, ?_⟩
                have := run_slice_at (P := P) (a' := none) hu hz (fun w => run_bounds2 (P := P) true k1 k2 (Nat.le_refl _) (Nat.le_refl _) w) w
                simpa using this
              | some mv =>
                obtain ⟨mv', rfl, hmv⟩ := hmx
                rw [hz, h1, h2] at h
                cases hmv <;> first | (cases h; done) | skip
                rename_i km m
                dsimp only at h
                obtain ⟨h3, h⟩ := bif_ok h
                injection h with h4 h5
                subst h4; subst h5
                simp only [Bool.and_eq_true, decide_eq_true_eq] at h3
                have e1 := Nat.eq_of_beq_eq_true h3.1.1.1
                have e2 := Nat.eq_of_beq_eq_true h3.1.1.2
                have e3 := Nat.eq_of_beq_eq_true h3.1.2.1
                have e4 := Nat.eq_of_beq_eq_true h3.1.2.2
                subst e1; subst e2; subst e3; subst e4
                obtain ⟨_, h7, h8⟩ := h3
                subst h8
                have k2' : ∃ k i, hi' = some (.int k i) ∧ 0 ≤ i ∧ 0 = i.toNat := by
                  rcases k2 with ⟨e, _⟩ | k2
                  · rw [e] at h7; cases h7
                  · exact k2
                refine ⟨rfl, _, .sliceN _ _, ?_⟩
                have := run_slice_at (P := P) (a' := none) (len := 0) hu hz (fun w => run_bounds3 (P := P) (km := km) true k1 k2' (Nat.le_refl _) (Nat.le_refl _) (Int.le_refl _) (Nat.le_refl _) w) w
                simpa using this
      case sliceE a a' c c' hsp =>
        dsimp only at h
        cases hz : szT P elem with
        | none => rw [hz] at h; cases h
        | some size =>
          cases h1 : natOf 0 lo with
          | none => rw [hz, h1] at h; cases h
          | some l =>
            cases h2 : natOf 0 hi with
            | none => rw [hz, h1, h2] at h; cases h
            | some hh =>
              obtain ⟨rfl, k1⟩ := natOf_ok h1 hlo
              obtain ⟨rfl, k2⟩ := natOf_ok h2 hhi
              rw [hz, h1, h2] at h
              dsimp only at h
              rw [hsp] at h
              simp only [cond_true] at h
              cases mx with
              | some _ => cases h
              | none =>
                have hm : mx' = none := hmx
                subst hm
                dsimp only at h
                obtain ⟨h3, h⟩ := bif_ok h
                injection h with h4 h5
                subst h4; subst h5
                simp only [Bool.and_eq_true] at h3
                have e1 := Nat.eq_of_beq_eq_true h3.1
                have e2 := Nat.eq_of_beq_eq_true h3.2
                subst e1; subst e2
                have hrun := run_slice_at (P := P) (a' := some a') hu hz (fun w => run_bounds2 (P := P) true k1 k2 (Nat.le_refl _) (Nat.zero_le c') w) w
                refine ⟨rfl, .slice (some (if c' = 0 then a' else a'.add (0 * size))) 0 (c' - 0), .sliceE _ _ _ _ hsp, ?_⟩
                rw [hrun]
                split <;> rfl
      case slice a a' len cap cap' ha hc =>
        dsimp only at h
        cases hz : szT P elem with
        | none => rw [hz] at h; cases h
        | some size =>
          cases h1 : natOf 0 lo with
          | none => rw [hz, h1] at h; cases h
          | some l =>
            cases h2 : natOf len hi with
            | none => rw [hz, h1, h2] at h; cases h
            | some hh =>
              rw [hz, h1, h2] at h
              obtain ⟨rfl, k1⟩ := natOf_ok h1 hlo
              obtain ⟨rfl, k2⟩ := natOf_ok h2 hhi
              dsimp only at h
              rw [ha.1] at h
              simp only [Option.isSome_none, cond_false] at h
              -- what is known of a row of an open capacity
              have open_ : ∀ {cs : List Value} {e : TypeId} {lo : Bool} {n : Nat}, getRow s a = some (cs, e, lo) → isInf cap = true → a.off + n * size ≤ cs.length → a.off = (INF - cap) * size → 0 < size → e = elem → lo = true → n ≤ cap' := by
                intro cs e lo n hr hi hfit hoff hs he hlo
                subst he; subst hlo
                obtain ⟨k, c, fz, hk, rfl, hg, hcc, hrr⟩ := hw.row hr ha
                have hc2 := hc.2
                rw [if_pos hi] at hc2
                obtain ⟨hle, k', hk', hcap⟩ := hc2
                rw [hk] at hk'
                injection hk' with hk'
                subst hk'
                have h3 := (hrr.2.2.2 rfl size hz).1
                rw [hoff] at hfit
                have h4 : ((INF - cap) + n) * size ≤ k.cap * size := by rw [Nat.add_mul]; omega
                have h5 := Nat.le_of_mul_le_mul_right h4 hs
                omega
              cases mx with
              | none =>
                have hm : mx' = none := hmx
                subst hm
                dsimp only at h
                cases hi : isInf cap with
                | true =>
                  rw [hi] at h
                  simp only [cond_true] at h
                  cases hr : getRow s a with
                  | none => rw [hr] at h; cases h
                  | some y =>
                    obtain ⟨cs, e, lo⟩ := y
                    rw [hr] at h
                    dsimp only at h
                    obtain ⟨h3, h⟩ := bif_ok h
                    simp only [Bool.and_eq_true, lenL_eq] at h3
                    obtain ⟨⟨g1, g2⟩, ⟨g3, g4⟩, ⟨g5, g6⟩, g7, g8⟩ := h3
                    have g1 := Nat.le_of_ble_eq_true g1
                    have hcc := open_ hr hi (Nat.le_of_ble_eq_true g2) (Nat.eq_of_beq_eq_true g4) (Nat.le_of_ble_eq_true g5) (Nat.eq_of_beq_eq_true g7) g8
                    have hrun := run_slice_at (P := P) (a' := some a') hu hz (fun w => run_bounds2 (P := P) true k1 k2 g1 hcc w) w
                    cases hlt : (Nat.beq l 0 || Nat.blt l hh) with
                    | true =>
                      rw [hlt] at h
                      simp only [cond_true] at h
                      injection h with h4 h5
                      subst h4; subst h5
                      have hbase : (if cap' = l then some a' else (some a').map (·.add (l * size))) = some (a'.add (l * size)) := by
                        simp only [Bool.or_eq_true] at hlt
                        rcases hlt with hlt | hlt
                        · have := Nat.eq_of_beq_eq_true hlt
                          subst this
                          rw [Nat.zero_mul]
                          have : a'.add 0 = a' := by simp [Addr.add]
                          split <;> simp [this]
                        · have hlt : l < hh := Nat.le_of_ble_eq_true hlt
                          rw [if_neg (by omega)]; rfl
                      rw [hbase] at hrun
                      refine ⟨rfl, _, .slice _ _ _ _ _ (ha.add (l * size)) ⟨by omega, ?_⟩, hrun⟩
                      rw [if_pos g6]
                      have hc2 := hc.2
                      rw [if_pos hi] at hc2
                      obtain ⟨hle, k', hk', hcap⟩ := hc2
                      refine ⟨by omega, k', hk', ?_⟩
                      unfold isInf at g6
                      have g6 := Nat.le_of_ble_eq_true g6
                      omega
                    | false =>
                      rw [hlt] at h
                      simp only [cond_false] at h
                      injection h with h4 h5
                      subst h4; subst h5
                      have hlt : ¬ l < hh := fun h => by
                        rw [show Nat.blt l hh = true from Nat.ble_eq_true_of_le h] at hlt; simp at hlt
                      have hlh : hh - l = 0 := by omega
                      rw [hlh] at hrun
                      refine ⟨rfl, .slice (some (if cap' = l then a' else a'.add (l * size))) 0 (cap' - l), .sliceE _ _ _ _ rfl, ?_⟩
                      rw [hrun]
                      split <;> rfl
                | false =>
                  rw [hi] at h
                  simp only [cond_false] at h
                  obtain ⟨h3, h⟩ := bif_ok h
                  injection h with h4 h5
                  subst h4; subst h5
                  simp only [Bool.and_eq_true] at h3
                  have hc2 := hc.2
                  rw [if_neg (by rw [hi]; simp)] at hc2
                  subst hc2
                  have g1 := Nat.le_of_ble_eq_true h3.1
                  have g2 := Nat.le_of_ble_eq_true h3.2
                  have hrun := run_slice_at (P := P) (a' := some a') hu hz (fun w => run_bounds2 (P := P) true k1 k2 g1 g2 w) w
                  refine ⟨rfl, .slice (some (if cap' = l then a' else a'.add (l * size))) (hh - l) (cap' - l), .slice _ _ _ _ _ (ha.base (cap' = l) _ (by rw [Bool.eq_iff_iff]; simp) (l * size)) ⟨by omega, by rw [if_neg (by rw [isInf_sub hi]; simp)]⟩, ?_⟩
                  rw [hrun]
                  split <;> rfl
              | some mv =>
                obtain ⟨mv', rfl, hmv⟩ := hmx
                cases hmv <;> first | (cases h; done) | skip
                rename_i km m
                dsimp only at h
                obtain ⟨h3, h⟩ := bif_ok h
                simp only [Bool.and_eq_true, decide_eq_true_eq, Bool.not_eq_true'] at h3
                obtain ⟨⟨g0, g1⟩, ⟨g2, g3⟩, g4⟩ := h3
                have g2 := Nat.le_of_ble_eq_true g2
                have g3 := Nat.le_of_ble_eq_true g3
                have k2' : ∃ k i, hi' = some (.int k i) ∧ 0 ≤ i ∧ hh = i.toNat := by
                  rcases k2 with ⟨e, _⟩ | k2
                  · rw [e] at g0; cases g0
                  · exact k2
                have fin : m.toNat ≤ cap' → v = .slice (some (baseAt (Nat.beq m.toNat l) a (l * size))) (hh - l) (m.toNat - l) → s' = s → s' = s ∧ QOk P ρ w v (Instr.sliceAt t (.slice (some a') len cap') lo' hi' (some (.int km m))) := by
                  rintro hmc rfl rfl
                  have hrun := run_slice_at (P := P) (a' := some a') (len := len) hu hz (fun w => run_bounds3 (P := P) (km := km) true k1 k2' g2 g3 g1 hmc w) w
                  refine ⟨rfl, .slice (some (if m.toNat = l then a' else a'.add (l * size))) (hh - l) (m.toNat - l), .slice _ _ _ _ _ (ha.base (m.toNat = l) _ (by rw [Bool.eq_iff_iff]; simp) (l * size)) ⟨by omega, by rw [if_neg (by rw [isInf_sub g4]; simp)]⟩, ?_⟩
                  rw [hrun]
                  split <;> rfl
                cases hi : isInf cap with
                | true =>
                  rw [hi] at h
                  simp only [cond_true] at h
                  cases hr : getRow s a with
                  | none => rw [hr] at h; cases h
                  | some y =>
                    obtain ⟨cs, e, lo⟩ := y
                    rw [hr] at h
                    dsimp only at h
                    obtain ⟨h3, h⟩ := bif_ok h
                    simp only [Bool.and_eq_true, lenL_eq] at h3
                    obtain ⟨h3, ⟨h4, h5⟩, h6, h7, h8⟩ := h3
                    injection h with e1 e2
                    exact fin (open_ hr hi (Nat.le_of_ble_eq_true h3) (Nat.eq_of_beq_eq_true h5) (Nat.le_of_ble_eq_true h6) (Nat.eq_of_beq_eq_true h7) h8) e1.symm e2.symm
                | false =>
                  rw [hi] at h
                  simp only [cond_false] at h
                  obtain ⟨h3, h⟩ := bif_ok h
                  injection h with e1 e2
                  have hc2 := hc.2
                  rw [if_neg (by rw [hi]; simp)] at hc2
                  exact fin (by rw [hc2]; exact Nat.le_of_ble_eq_true h3) e1.symm e2.symm
    case array n elem =>
      cases hx <;> first | (cases h; done) | skip
      rename_i a a' ha
      dsimp only at h
      cases hz : szT P elem with
      | none => rw [hz] at h; cases h
      | some size =>
        cases h1 : natOf 0 lo with
        | none => rw [hz, h1] at h; cases h
        | some l =>
          cases h2 : natOf n hi with
          | none => rw [hz, h1, h2] at h; cases h
          | some hh =>
            cases mx with
            | some _ => rw [hz, h1, h2] at h; cases h
            | none =>
              have hm : mx' = none := hmx
              subst hm
              rw [hz, h1, h2] at h
              obtain ⟨rfl, k1⟩ := natOf_ok h1 hlo
              obtain ⟨rfl, k2⟩ := natOf_ok h2 hhi
              obtain ⟨h3, h⟩ := bif_ok h
              injection h with e1 e2
              subst e1; subst e2
              simp only [Bool.and_eq_true, Bool.not_eq_true'] at h3
              have g1 := Nat.le_of_ble_eq_true h3.1.1
              have g2 := Nat.le_of_ble_eq_true h3.1.2
              have := run_bounds2 (P := P) false k1 k2 g1 g2 w
              refine ⟨rfl, .slice (some (if n = l then a' else a'.add (l * size))) (hh - l) (n - l), .slice _ _ _ _ _ (ha.base (n = l) _ (by rw [Bool.eq_iff_iff]; simp) (l * size)) ⟨by omega, by rw [if_neg (by rw [isInf_sub h3.2]; simp)]⟩, ?_⟩
              simp [Instr.sliceAt, Instr.sureAddr, xu hu, this, xs hz]
end
end Go.Proofs.YtdhkebolenbpiaaGreatDoor.X
