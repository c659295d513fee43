/- A runner for closed calls, part 2: Ya Yb Yc Wn. -/
import Derived.Test.YtdhkebolenbpiaaGreatDoorKna
import Derived.Below
import Derived.Laws.Sem
import Derived.Laws.Cells
namespace Go.Proofs.YtdhkebolenbpiaaGreatDoor.X

/-! ### Lists -/
section
variable {α : Type}
theorem nth_eq : ∀ (l : List α) (n : Nat), nth l n = l[n]?
  | [], _ => by simp [nth]
  | _ :: _, 0 => rfl
  | _ :: l, n + 1 => by rw [List.getElem?_cons_succ, ← nth_eq l n]; rfl
theorem takeL_eq : ∀ (n : Nat) (l : List α), takeL n l = l.take n
  | 0, l => by cases l <;> rfl
  | _ + 1, [] => rfl
  | n + 1, x :: l => by rw [List.take_succ_cons, ← takeL_eq n l]; rfl
theorem dropL_eq : ∀ (n : Nat) (l : List α), dropL n l = l.drop n
  | 0, l => by cases l <;> rfl
  | n + 1, [] => rfl
  | n + 1, x :: l => by rw [List.drop_succ_cons, ← dropL_eq n l]; rfl
theorem lenL_eq : ∀ (l : List α), lenL l = l.length
  | [] => rfl
  | _ :: l => by rw [List.length_cons, ← lenL_eq l]; rfl
theorem setL_eq (v : α) : ∀ (l : List α) (n : Nat), setL v l n = l.set n v
  | [], _ => by simp [setL]
  | _ :: _, 0 => rfl
  | x :: l, n + 1 => by rw [List.set_cons_succ, ← setL_eq v l n]; rfl
theorem appL_eq : ∀ (l r : List α), appL l r = l ++ r
  | [], _ => rfl
  | x :: l, r => by rw [List.cons_append, ← appL_eq l r]; rfl

/-! ### Trees -/
theorem Tr.get_nil (n : Nat) : (Tr.nil : Tr α).get n = none := rfl
theorem Tr.get_zero (l : Tr α) (o : Option α) (r : Tr α) : (Tr.node l o r).get 0 = o := rfl
theorem Tr.get_succ (l : Tr α) (o : Option α) (r : Tr α) (m : Nat) : (Tr.node l o r).get (m + 1) = if m % 2 = 0 then l.get (m / 2) else r.get (m / 2) := by
  have : (Tr.node l o r).get (m + 1) = Bool.rec (motive := fun _ => Option α) (r.get (m / 2)) (l.get (m / 2)) (Nat.beq (m % 2) 0) := rfl
  rw [this]
  by_cases h : m % 2 = 0
  · rw [if_pos h, h]; rfl
  · rw [if_neg h]
    have : Nat.beq (m % 2) 0 = false := by
      cases hb : Nat.beq (m % 2) 0
      · rfl
      · exact absurd (Nat.eq_of_beq_eq_true hb) h
    rw [this]
theorem Tr.get_root (t : Tr α) : t.get 0 = t.root := by cases t <;> rfl
theorem Tr.get_sub (t : Tr α) (m : Nat) : t.get (m + 1) = if m % 2 = 0 then t.left.get (m / 2) else t.right.get (m / 2) := by
  cases t with
  | nil => simp [Tr.left, Tr.right, Tr.get_nil]
  | node l o r => exact Tr.get_succ l o r m
theorem Tr.setF_zero (v : α) (f : Nat) (t : Tr α) : Tr.setF v (f + 1) t 0 = .node t.left (some v) t.right := rfl
theorem Tr.setF_succ (v : α) (f : Nat) (t : Tr α) (m : Nat) : Tr.setF v (f + 1) t (m + 1) = if m % 2 = 0 then .node (Tr.setF v f t.left (m / 2)) t.root t.right else .node t.left t.root (Tr.setF v f t.right (m / 2)) := by
  have : Tr.setF v (f + 1) t (m + 1) = Bool.rec (motive := fun _ => Tr α) (.node t.left t.root (Tr.setF v f t.right (m / 2))) (.node (Tr.setF v f t.left (m / 2)) t.root t.right) (Nat.beq (m % 2) 0) := rfl
  rw [this]
  by_cases h : m % 2 = 0
  · rw [if_pos h, h]; rfl
  · rw [if_neg h]
    have : Nat.beq (m % 2) 0 = false := by
      cases hb : Nat.beq (m % 2) 0
      · rfl
      · exact absurd (Nat.eq_of_beq_eq_true hb) h
    rw [this]
theorem Tr.get_setF (v : α) : ∀ (f : Nat) (t : Tr α) (n m : Nat), n < f → (Tr.setF v f t n).get m = if m = n then some v else t.get m
  | 0, _, _, _, h => absurd h (Nat.not_lt_zero _)
  | f + 1, t, 0, m, _ => by
    rw [Tr.setF_zero]
    cases m with
    | zero => simp [Tr.get_zero]
    | succ m => rw [if_neg (Nat.succ_ne_zero m), Tr.get_succ, Tr.get_sub t]
  | f + 1, t, n + 1, m, h => by
    rw [Tr.setF_succ]
    cases m with
    | zero =>
      rw [if_neg (Nat.succ_ne_zero n).symm, Tr.get_root t]
      split <;> rfl
    | succ m =>
      rw [Tr.get_sub t]
      by_cases hn : n % 2 = 0
      · rw [if_pos hn, Tr.get_succ]
        by_cases hm : m % 2 = 0
        · rw [if_pos hm, if_pos hm, Tr.get_setF v f t.left (n / 2) (m / 2) (by omega)]
          by_cases he : m = n
          · subst he; simp
          · rw [if_neg (by omega), if_neg (by omega)]
        · rw [if_neg hm, if_neg hm, if_neg (by omega)]
      · rw [if_neg hn, Tr.get_succ]
        by_cases hm : m % 2 = 0
        · rw [if_pos hm, if_pos hm, if_neg (by omega)]
        · rw [if_neg hm, if_neg hm, Tr.get_setF v f t.right (n / 2) (m / 2) (by omega)]
          by_cases he : m = n
          · subst he; simp
          · rw [if_neg (by omega), if_neg (by omega)]
theorem Tr.get_set (t : Tr α) (n m : Nat) (v : α) : (t.set n v).get m = if m = n then some v else t.get m := Tr.get_setF v (n + 1) t n m (Nat.lt_succ_self n)
end

/-! ### Renamings -/
structure Loc where
  blk : Nat
  sh : Nat
  cap : Nat
abbrev Ren := Nat → Option Loc
def Ren.upd (ρ : Ren) (i : Nat) (l : Loc) : Ren := fun j => if j = i then some l else ρ j
def Ren.Le (ρ ρ' : Ren) : Prop := ∀ i l, ρ i = some l → ρ' i = some l
theorem Ren.Le.refl (ρ : Ren) : ρ.Le ρ := fun _ _ h => h
theorem Ren.Le.trans {a b c : Ren} (h : a.Le b) (k : b.Le c) : a.Le c := fun i l e => k i l (h i l e)

def ARel (ρ : Ren) (a a' : Addr) : Prop := a.spot = none ∧ ∃ l, ρ a.block = some l ∧ a' = ⟨l.blk, l.sh + a.off, none⟩
def CRel (ρ : Ren) (a : Addr) (n c c' : Nat) : Prop := n ≤ c' ∧ (if isInf c = true then c ≤ INF ∧ ∃ l, ρ a.block = some l ∧ l.cap = (INF - c) + c' else c' = c)
def FRel (ρ : Ren) : Fn → Fn → Prop
  | .yield l, f' => ∃ k, ρ l = some k ∧ f' = .yield k.blk
  | f, f' => f = f'

/-- The int that a symbol stands for: the renaming's entry says it. -/
def symI (n : Nat) : Int := if n % 2 = 0 then ((n / 2 : Nat) : Int) else -((n / 2 : Nat) : Int) - 1
theorem symI_all (k : Int) : ∃ n, symI n = k := by
  rcases Int.lt_or_le k 0 with h | h
  · refine ⟨2 * (-k - 1).toNat + 1, ?_⟩
    unfold symI
    rw [if_neg (by omega)]
    omega
  · refine ⟨2 * k.toNat, ?_⟩
    unfold symI
    rw [if_pos (by omega)]
    omega
/-! ### Texts of letters that hang on a number -/
def letAt (i : Nat) (k : Int) : Nat := 97 + ((((i : Int) * i + k + 9223372036854775808) % 18446744073709551616 - 9223372036854775808) % 26).toNat
def letS (n : Nat) (k : Int) : ByteArray := ⟨⟨(List.range n).map fun i => UInt8.ofNat (letAt i k)⟩⟩
theorem letS_size (n : Nat) (k : Int) : (letS n k).size = n := by simp [letS, ByteArray.size]
/-! ### Fields of the symbol's number -/
def fldQ (q V : Nat) : Nat := V / 2 ^ (64 * q) % 2 ^ 64
def fldK (V : Nat) : Int := symI (V / 2 ^ 65536)
def clampN (lo hi x : Nat) : Nat := if lo ≤ x ∧ x ≤ hi then x else lo
theorem clamp_in {lo hi : Nat} (h : lo ≤ hi) (x : Nat) : lo ≤ clampN lo hi x ∧ clampN lo hi x ≤ hi := by
  unfold clampN
  split
  · assumption
  · omega
def numV (n V : Nat) : Value :=
  if nQ n = 1 then .int .i64 (if nSh n = 0 then fldK V else if nSh n = 2 then -2 - (fldQ 255 V : Int) else Int.tmod (fldK V) 676 + nLo n)
  else .int (nK n) (clampN (nLo n) (nHi n) (fldQ (nQ n) V / 2 ^ nSh n % 2 ^ nW n))
def itemB (V d : Nat) : UInt8 := if d < 256 then UInt8.ofNat d else if d < 512 then UInt8.ofNat (clampN 97 122 (fldQ d V / 2 ^ 0 % 2 ^ 8)) else UInt8.ofNat (clampN 0 255 (fldQ d V / 2 ^ 0 % 2 ^ 8))
noncomputable def txtB (n V : Nat) : ByteArray := ⟨⟨(tItems n).map (itemB V)⟩⟩
/-- What a code stands for. -/
noncomputable def svV (n V : Nat) : Value := if n < FLD then .string (letS n (symI V)) else if isNum n = true then numV n V else .string (txtB n V)
theorem sv_old {n : Nat} (V : Nat) (h : n < FLD) : svV n V = .string (letS n (symI V)) := if_pos h
theorem isNum_ge {n : Nat} (h : isNum n = true) : FLD ≤ n := by
  unfold isNum at h
  rw [Bool.and_eq_true] at h
  exact Nat.le_of_ble_eq_true h.1
theorem sv_num {n : Nat} (V : Nat) (h : isNum n = true) : svV n V = numV n V := by
  unfold svV
  rw [if_neg (by have := isNum_ge h; omega), if_pos h]
theorem sv_txt {n : Nat} (V : Nat) (h : isTxt n = true) : svV n V = .string (txtB n V) := by
  unfold isTxt at h
  rw [Bool.and_eq_true] at h
  have h1 := Nat.le_of_ble_eq_true h.1
  have h2 := Nat.eq_of_beq_eq_true h.2
  unfold svV
  rw [if_neg (by omega), if_neg]
  intro h3
  unfold isNum at h3
  rw [Bool.and_eq_true] at h3
  have := Nat.eq_of_beq_eq_true h3.2
  omega
theorem isFld_num {n : Nat} (h : isFld n = true) : isNum n = true ∧ nQ n ≠ 1 ∧ nLo n ≤ nHi n := by
  unfold isFld at h
  simp only [Bool.and_eq_true] at h
  have h1 : 1 < nQ n := Nat.le_of_ble_eq_true h.2.1
  exact ⟨h.1, by omega, Nat.le_of_ble_eq_true h.2.2⟩
theorem sv_fld {n : Nat} (V : Nat) (h : isFld n = true) : svV n V = .int (nK n) (clampN (nLo n) (nHi n) (fldQ (nQ n) V / 2 ^ nSh n % 2 ^ nW n) : Nat) := by
  obtain ⟨h1, h2, _⟩ := isFld_num h
  rw [sv_num V h1, numV, if_neg h2]
/-! ### Texts of which not every byte is known, any number, any value of an interface -/
/-- Bytes between bounds. -/
def TR : List (Nat × Nat) → List UInt8 → Prop
  | [], [] => True
  | p :: l, b :: m => (p.1 ≤ b.toNat ∧ b.toNat ≤ p.2) ∧ TR l m
  | _, _ => False
def TOk (c : Nat) (v : Value) : Prop :=
  (c % 4 = 0 ∧ ∃ b : ByteArray, v = .string b ∧ TR (tL c) b.data.toList) ∨ (c % 4 = 1 ∧ ∃ x : Int, v = .int .i64 x) ∨ (c % 4 = 3 ∧ (v = .nilIface ∨ ∃ t u, v = .iface t u))
mutual
inductive VRel (ρ : Ren) : Value → Value → Prop
  | bool (b : Bool) : VRel ρ (.bool b) (.bool b)
  | int (k : IntKind) (n : Int) : VRel ρ (.int k n) (.int k n)
  | txt (c : Nat) (v : Value) (h : TOk c v) : VRel ρ (.float .f64 c) v
  | rng (c x : Nat) (h : rLo c ≤ x ∧ x ≤ rHi c) : VRel ρ (.float .f32 c) (.int (rK c) x)
  | string (s : ByteArray) : VRel ρ (.string s) (.string s)
  | sym (i b : Nat) (l : Loc) (x : Int) (h : ρ i = some l) (hx : x = symI l.sh + sOff b ∧ (b ≠ 0 → (sLo b : Int) ≤ x ∧ x ≤ (sHi b : Int))) : VRel ρ (.complex .f32 i b) (.int .i64 x)
  | sstr (i n : Nat) (l : Loc) (v : Value) (h : ρ i = some l) (hv : v = svV n l.sh) : VRel ρ (.complex .f64 i n) v
  | anyB (n : Nat) (h : n < 256) : VRel ρ (.chan none) (.int .u8 n)
  | any32 (n : Nat) (h : n < 4294967296) : VRel ρ (.chan (some 0)) (.int .u32 n)
  | anyS (r : Nat) (a : Option Addr) (n c : Nat) (h : n ≤ 9223372036854775807 ∧ (r = 0 ∨ if r % 2 = 1 then n ≤ r / 2 else r / 2 ≤ n)) : VRel ρ (.chan (some (r + 1))) (.slice a n c)
  | nilFunc : VRel ρ .nilFunc .nilFunc
  | nilIface : VRel ρ .nilIface .nilIface
  | ptrN : VRel ρ (.pointer none) (.pointer none)
  | ptr (a a' : Addr) (h : ARel ρ a a') : VRel ρ (.pointer (some a)) (.pointer (some a'))
  | sliceN (n c : Nat) : VRel ρ (.slice none n c) (.slice none n c)
  | slice (a a' : Addr) (n c c' : Nat) (h : ARel ρ a a') (hc : CRel ρ a n c c') : VRel ρ (.slice (some a) n c) (.slice (some a') n c')
  | sliceE (a a' : Addr) (c c' : Nat) (h : a.spot.isSome = true) : VRel ρ (.slice (some a) 0 c) (.slice (some a') 0 c')
  | mapN : VRel ρ (.map none) (.map none)
  | map (r : Nat) (l : Loc) (h : ρ r = some l) : VRel ρ (.map (some r)) (.map (some l.blk))
  | func (f f' : Fn) (a b a' b' : List Value) (h : FRel ρ f f') (ha : LRel ρ a a') (hb : LRel ρ b b') : VRel ρ (.func f ⟨a⟩ ⟨b⟩) (.func f' ⟨a'⟩ ⟨b'⟩)
  | iface (t : TypeId) (v v' : Value) (h : VRel ρ v v') : VRel ρ (.iface t v) (.iface t v')
  | agg (a a' : List Value) (h : LRel ρ a a') : VRel ρ (.agg ⟨a⟩) (.agg ⟨a'⟩)
  | tuple (a a' : List Value) (h : LRel ρ a a') : VRel ρ (.tuple ⟨a⟩) (.tuple ⟨a'⟩)
inductive LRel (ρ : Ren) : List Value → List Value → Prop
  | nil : LRel ρ [] []
  | cons (v v' : Value) (l l' : List Value) (h : VRel ρ v v') (t : LRel ρ l l') : LRel ρ (v :: l) (v' :: l')
end

theorem ARel.mono {ρ ρ' : Ren} {a a' : Addr} (h : ARel ρ a a') (k : ρ.Le ρ') : ARel ρ' a a' := ⟨h.1, let ⟨l, h1, h2⟩ := h.2; ⟨l, k _ _ h1, h2⟩⟩
theorem CRel.mono {ρ ρ' : Ren} {a : Addr} {n c c' : Nat} (h : CRel ρ a n c c') (k : ρ.Le ρ') : CRel ρ' a n c c' := by
  refine ⟨h.1, ?_⟩
  have h2 := h.2
  split
  · rename_i hi; rw [if_pos hi] at h2
    exact ⟨h2.1, let ⟨l, h3, h4⟩ := h2.2; ⟨l, k _ _ h3, h4⟩⟩
  · rename_i hi; rw [if_neg hi] at h2; exact h2
theorem FRel.mono {ρ ρ' : Ren} {f f' : Fn} (h : FRel ρ f f') (k : ρ.Le ρ') : FRel ρ' f f' := by
  cases f with
  | yield l => obtain ⟨x, h1, h2⟩ := h; exact ⟨x, k _ _ h1, h2⟩
  | _ => exact h
mutual
theorem VRel.mono {ρ ρ' : Ren} (k : ρ.Le ρ') : ∀ {v v' : Value}, VRel ρ v v' → VRel ρ' v v'
  | _, _, .bool b => .bool b
  | _, _, .int j n => .int j n
  | _, _, .txt c v h => .txt c v h
  | _, _, .rng c x h => .rng c x h
  | _, _, .string s => .string s
  | _, _, .sym i b l x h hx => .sym i b l x (k _ _ h) hx
  | _, _, .sstr i n l v h hv => .sstr i n l v (k _ _ h) hv
  | _, _, .anyB n h => .anyB n h
  | _, _, .any32 n h => .any32 n h
  | _, _, .anyS r a n c h => .anyS r a n c h
  | _, _, .nilFunc => .nilFunc
  | _, _, .nilIface => .nilIface
  | _, _, .ptrN => .ptrN
  | _, _, .ptr a a' h => .ptr a a' (h.mono k)
  | _, _, .sliceN n c => .sliceN n c
  | _, _, .slice a a' n c c' h hc => .slice a a' n c c' (h.mono k) (hc.mono k)
  | _, _, .sliceE a a' c c' h => .sliceE a a' c c' h
  | _, _, .mapN => .mapN
  | _, _, .map r l h => .map r l (k _ _ h)
  | _, _, .func f f' a b a' b' h ha hb => .func f f' a b a' b' (h.mono k) (LRel.mono k ha) (LRel.mono k hb)
  | _, _, .iface t v v' h => .iface t v v' (VRel.mono k h)
  | _, _, .agg a a' h => .agg a a' (LRel.mono k h)
  | _, _, .tuple a a' h => .tuple a a' (LRel.mono k h)
theorem LRel.mono {ρ ρ' : Ren} (k : ρ.Le ρ') : ∀ {l l' : List Value}, LRel ρ l l' → LRel ρ' l l'
  | _, _, .nil => .nil
  | _, _, .cons v v' l l' h t => .cons v v' l l' (VRel.mono k h) (LRel.mono k t)
end

theorem LRel.length {ρ : Ren} : ∀ {l l' : List Value}, LRel ρ l l' → l.length = l'.length
  | _, _, .nil => rfl
  | _, _, .cons _ _ _ _ _ t => by simp [LRel.length t]
theorem LRel.get {ρ : Ren} : ∀ {l l' : List Value}, LRel ρ l l' → ∀ {i : Nat} {v : Value}, l[i]? = some v → ∃ v', l'[i]? = some v' ∧ VRel ρ v v'
  | _, _, .nil, _, _, h => by simp at h
  | _, _, .cons v v' l l' h t, 0, _, e => by simp at e; subst e; exact ⟨v', by simp, h⟩
  | _, _, .cons v v' l l' h t, i + 1, _, e => by simp at e ⊢; exact LRel.get t e
theorem LRel.of_get {ρ : Ren} : ∀ {l l' : List Value}, l.length = l'.length → (∀ (i : Nat) (v : Value), l[i]? = some v → ∃ v', l'[i]? = some v' ∧ VRel ρ v v') → LRel ρ l l'
  | [], [], _, _ => .nil
  | [], _ :: _, h, _ => by simp at h
  | _ :: _, [], h, _ => by simp at h
  | v :: l, v' :: l', h, k => by
    obtain ⟨x, h1, h2⟩ := k 0 v (by simp)
    simp at h1; subst h1
    exact .cons _ _ _ _ h2 (LRel.of_get (by simpa using h) fun i u hu => by
      obtain ⟨x, h3, h4⟩ := k (i + 1) u (by simpa using hu)
      exact ⟨x, by simpa using h3, h4⟩)
theorem LRel.append {ρ : Ren} : ∀ {a a' b b' : List Value}, LRel ρ a a' → LRel ρ b b' → LRel ρ (a ++ b) (a' ++ b')
  | _, _, _, _, .nil, h => h
  | _, _, _, _, .cons v v' l l' h t, k => .cons _ _ _ _ h (LRel.append t k)
theorem LRel.take {ρ : Ren} : ∀ {a a' : List Value} (n : Nat), LRel ρ a a' → LRel ρ (a.take n) (a'.take n)
  | _, _, 0, _ => by simp; exact .nil
  | _, _, _ + 1, .nil => .nil
  | _, _, n + 1, .cons v v' l l' h t => by simp; exact .cons _ _ _ _ h (LRel.take n t)
theorem LRel.drop {ρ : Ren} : ∀ {a a' : List Value} (n : Nat), LRel ρ a a' → LRel ρ (a.drop n) (a'.drop n)
  | _, _, 0, h => by simpa using h
  | _, _, _ + 1, .nil => .nil
  | _, _, n + 1, .cons v v' l l' h t => by simpa using LRel.drop n t
theorem LRel.map_ {ρ : Ren} {β : Type} {f g : β → Value} : ∀ (l : List β), (∀ x ∈ l, VRel ρ (f x) (g x)) → LRel ρ (l.map f) (l.map g)
  | [], _ => .nil
  | x :: l, h => .cons _ _ _ _ (h x (by simp)) (LRel.map_ l fun y hy => h y (by simp [hy]))

mutual
theorem flat_eq {ρ : Ren} : ∀ {v v' : Value}, VRel ρ v v' → flat v = true → v' = v
  | _, _, .bool b, _ => rfl
  | _, _, .int j n, _ => rfl
  | _, _, .txt c v h, k => by simp [flat] at k
  | _, _, .rng c x h, k => by simp [flat] at k
  | _, _, .string s, _ => rfl
  | _, _, .sym i b l x h hx, k => by simp [flat] at k
  | _, _, .sstr i n l v h hv, k => by simp [flat] at k
  | _, _, .anyB n h, k => by simp [flat] at k
  | _, _, .any32 n h, k => by simp [flat] at k
  | _, _, .anyS r a n c h, k => by simp [flat] at k
  | _, _, .nilFunc, _ => rfl
  | _, _, .nilIface, _ => rfl
  | _, _, .ptrN, _ => rfl
  | _, _, .ptr a a' h, k => by simp [flat] at k
  | _, _, .sliceN n c, _ => rfl
  | _, _, .slice a a' n c c' h hc, k => by simp [flat] at k
  | _, _, .sliceE a a' c c' h, k => by simp [flat] at k
  | _, _, .mapN, _ => rfl
  | _, _, .map r l h, k => by simp [flat] at k
  | _, _, .func f f' a b a' b' h ha hb, k => by simp [flat] at k
  | _, _, .iface t v v' h, k => by rw [flat_eq h (by simpa [flat] using k)]
  | _, _, .agg a a' h, k => by rw [flats_eq h (by simpa [flat] using k)]
  | _, _, .tuple a a' h, k => by simp [flat] at k
theorem flats_eq {ρ : Ren} : ∀ {v v' : List Value}, LRel ρ v v' → flats v = true → v' = v
  | _, _, .nil, _ => rfl
  | _, _, .cons v v' l l' h t, k => by
    simp only [flats, Bool.and_eq_true] at k
    rw [flat_eq h k.1, flats_eq t k.2]
end
mutual
theorem flat_refl (ρ : Ren) : ∀ {v : Value}, flat v = true → VRel ρ v v
  | .bool b, _ => .bool b
  | .int j n, _ => .int j n
  | .string s, _ => .string s
  | .nilFunc, _ => .nilFunc
  | .nilIface, _ => .nilIface
  | .pointer none, _ => .ptrN
  | .slice none n c, _ => .sliceN n c
  | .map none, _ => .mapN
  | .iface t v, k => .iface t v v (flat_refl ρ (by simpa [flat] using k))
  | .agg ⟨cs⟩, k => .agg cs cs (flats_refl ρ (by simpa [flat] using k))
  | .float .f64 _, k | .float .f32 _, k | .pointer (some _), k | .slice (some _) _ _, k | .map (some _), k | .func .., k | .tuple _, k | .complex .., k | .chan _, k => by simp [flat] at k
theorem flats_refl (ρ : Ren) : ∀ {v : List Value}, flats v = true → LRel ρ v v
  | [], _ => .nil
  | v :: l, k => by
    simp only [flats, Bool.and_eq_true] at k
    exact .cons _ _ _ _ (flat_refl ρ k.1) (flats_refl ρ k.2)
end
theorem sameB_eq : ∀ l m : List UInt8, sameB l m = (l == m)
  | [], [] => rfl
  | [], _ :: _ => rfl
  | _ :: _, [] => rfl
  | x :: l, y :: m => by
    show Bool.rec (motive := fun _ => Bool) false (sameB l m) (Nat.beq x.toNat y.toNat) = ((x == y) && (l == m))
    rw [sameB_eq l m]
    cases h : Nat.beq x.toNat y.toNat with
    | true =>
      have e : x = y := UInt8.toNat_inj.1 (Nat.eq_of_beq_eq_true h)
      subst e
      simp
    | false =>
      have e : x ≠ y := fun e => by rw [e, Nat.beq_refl] at h; cases h
      have : (x == y) = false := by simpa using e
      rw [this]; rfl
mutual
theorem same_eq : ∀ {v w : Value}, same v w = true → v = w
  | .bool a, w, h => by cases w <;> simp [same] at h <;> simp [h]
  | .int a b, w, h => by cases w <;> simp [same] at h <;> simp [h]
  | .string a, w, h => by
    cases w <;> simp only [same, Bool.false_eq_true] at h
    rename_i b
    rw [sameB_eq, beq_iff_eq] at h
    obtain ⟨⟨a⟩⟩ := a; obtain ⟨⟨b⟩⟩ := b
    dsimp only at h
    rw [h]
  | .pointer a, w, h => by cases w <;> simp [same] at h <;> simp [h]
  | .slice a b c, w, h => by
    cases w <;> simp only [same, Bool.false_eq_true, Bool.and_eq_true, decide_eq_true_eq] at h
    rw [h.1, Nat.eq_of_beq_eq_true h.2.1, Nat.eq_of_beq_eq_true h.2.2]
  | .map a, w, h => by cases w <;> simp [same] at h <;> simp [h]
  | .nilFunc, w, h => by cases w <;> simp [same] at h <;> simp
  | .nilIface, w, h => by cases w <;> simp [same] at h <;> simp
  | .complex a b c, w, h => by
    cases w <;> simp only [same, Bool.false_eq_true, Bool.and_eq_true, decide_eq_true_eq] at h
    rw [h.1, Nat.eq_of_beq_eq_true h.2.1, Nat.eq_of_beq_eq_true h.2.2]
  | .chan a, w, h => by cases w <;> simp [same] at h <;> simp [h]
  | .float a b, w, h => by
    cases w <;> simp only [same, Bool.false_eq_true, Bool.and_eq_true, decide_eq_true_eq] at h
    rw [h.1, Nat.eq_of_beq_eq_true h.2]
  | .iface t v, w, h => by
    cases w <;> simp only [same, Bool.false_eq_true, Bool.and_eq_true] at h
    rw [Nat.eq_of_beq_eq_true h.1, same_eq h.2]
  | .agg ⟨a⟩, w, h => by
    cases w with
    | agg b => obtain ⟨b⟩ := b; simp only [same] at h; rw [sames_eq h]
    | _ => simp [same] at h
  | .tuple ⟨a⟩, w, h => by
    cases w with
    | tuple b => obtain ⟨b⟩ := b; simp only [same] at h; rw [sames_eq h]
    | _ => simp [same] at h
  | .func f ⟨a⟩ ⟨b⟩, w, h => by
    cases w with
    | func g c d => obtain ⟨c⟩ := c; obtain ⟨d⟩ := d; simp only [same, Bool.and_eq_true, decide_eq_true_eq] at h; rw [h.1, sames_eq h.2.1, sames_eq h.2.2]
    | _ => simp [same] at h
theorem sames_eq : ∀ {v w : List Value}, sames v w = true → v = w
  | [], w, h => by cases w <;> simp [sames] at h <;> rfl
  | v :: l, w, h => by
    cases w with
    | nil => simp [sames] at h
    | cons x m => simp only [sames, Bool.and_eq_true] at h; rw [same_eq h.1, sames_eq h.2]
end
end Go.Proofs.YtdhkebolenbpiaaGreatDoor.X

namespace Go.Proofs.YtdhkebolenbpiaaGreatDoor.X
open Go.RowKit

def VRels (ρ : Ren) (e e' : MapEntry) : Prop := VRel ρ e.key e'.key ∧ VRel ρ e.val e'.val ∧ e'.born = e.born
inductive ERel (ρ : Ren) : List MapEntry → List MapEntry → Prop
  | nil : ERel ρ [] []
  | cons (e e' : MapEntry) (l l' : List MapEntry) (h : VRels ρ e e') (t : ERel ρ l l') : ERel ρ (e :: l) (e' :: l')
def MRel (ρ : Ren) : Option Nat → Option Nat → Prop
  | none, m => m = none
  | some r, m => ∃ l, ρ r = some l ∧ m = some l.blk
structure LoopRel (ρ : Ren) (r r' : Loop) : Prop where
  state : r'.state = r.state
  pending : r'.pending = r.pending
  fn : r'.fn = r.fn
  params : r'.params = r.params
  assign : r'.assign = r.assign
  body : r'.body = r.body
  tmps : LRel ρ r.tmps.toList r'.tmps.toList
  defers : ∃ l, ρ r.defers = some l ∧ r'.defers = l.blk
def OORel (ρ : Ren) : Obj → Obj → Prop
  | .map es c, o => ∃ es', o = .map ⟨es'⟩ c ∧ ERel ρ es.toList es'
  | .mapIter m a seen st, o => ∃ m', MRel ρ m m' ∧ o = .mapIter m' a seen st
  | .stringIter b p, o => o = .stringIter b p
  | .loop r, o => ∃ r', o = .loop r' ∧ LoopRel ρ r r'
  | .deferred none, o => o = .deferred none
  | .deferred (some []), o => o = .deferred (some [])
  | .cells c _ _, o => ∃ e fz, o = .cells c e fz
  | _, _ => False
def RowRel (P : Program) (ρ : Ren) (l : Loc) (cs : List Value) (e : TypeId) (loose : Bool) (c : Array Value) (fz : Nat × Nat) : Prop :=
  (∀ j, j < c.size → ¬ (fz.1 ≤ j ∧ j < fz.2)) ∧ l.sh + cs.length ≤ c.size ∧ (∀ (j : Nat) (v : Value), cs[j]? = some v → ∃ v', c[l.sh + j]? = some v' ∧ VRel ρ v v') ∧
  (loose = true → ∀ n, szT P e = some n → cs.length ≤ l.cap * n ∧ l.sh + l.cap * n ≤ c.size)
def ORel (P : Program) (ρ : Ren) (l : Loc) : AO → Obj → Prop
  | .row cs e loose, o => ∃ c fz, o = .cells c e fz ∧ RowRel P ρ l cs e loose c fz
  | .obj o1, o => l.sh = 0 ∧ OORel ρ o1 o
  | .tab cs, o => ∃ c e fz, o = .cells c e fz ∧ ∀ (j : Nat) (v : Value), cs[j]? = some v → ∃ v', c[l.sh + j]? = some v' ∧ VRel ρ v v'
  | .dead, _ => True

theorem VRels.mono {ρ ρ' : Ren} (k : ρ.Le ρ') {e e' : MapEntry} (h : VRels ρ e e') : VRels ρ' e e' := ⟨h.1.mono k, h.2.1.mono k, h.2.2⟩
theorem ERel.mono {ρ ρ' : Ren} (k : ρ.Le ρ') : ∀ {l l' : List MapEntry}, ERel ρ l l' → ERel ρ' l l'
  | _, _, .nil => .nil
  | _, _, .cons e e' l l' h t => .cons e e' l l' (h.mono k) (ERel.mono k t)
theorem MRel.mono {ρ ρ' : Ren} (k : ρ.Le ρ') : ∀ {m m' : Option Nat}, MRel ρ m m' → MRel ρ' m m'
  | none, _, h => h
  | some _, _, ⟨l, h1, h2⟩ => ⟨l, k _ _ h1, h2⟩
theorem LoopRel.mono {ρ ρ' : Ren} (k : ρ.Le ρ') {r r' : Loop} (h : LoopRel ρ r r') : LoopRel ρ' r r' :=
  { h with tmps := h.tmps.mono k, defers := let ⟨l, h1, h2⟩ := h.defers; ⟨l, k _ _ h1, h2⟩ }
theorem OORel.mono {ρ ρ' : Ren} (k : ρ.Le ρ') {o o' : Obj} (h : OORel ρ o o') : OORel ρ' o o' := by
  cases o with
  | map es c => obtain ⟨x, h1, h2⟩ := h; exact ⟨x, h1, h2.mono k⟩
  | mapIter m a b c => obtain ⟨x, h1, h2⟩ := h; exact ⟨x, h1.mono k, h2⟩
  | stringIter b p => exact h
  | loop r => obtain ⟨x, h1, h2⟩ := h; exact ⟨x, h1, h2.mono k⟩
  | deferred d => cases d with
    | none => exact h
    | some l => cases l <;> exact h
  | _ => exact h
theorem RowRel.mono {P : Program} {ρ ρ' : Ren} (k : ρ.Le ρ') {l : Loc} {cs : List Value} {e : TypeId} {lo : Bool} {c : Array Value} {fz : Nat × Nat} (h : RowRel P ρ l cs e lo c fz) : RowRel P ρ' l cs e lo c fz :=
  ⟨h.1, h.2.1, fun j v hj => let ⟨v', h1, h2⟩ := h.2.2.1 j v hj; ⟨v', h1, h2.mono k⟩, h.2.2.2⟩
theorem ORel.mono {P : Program} {ρ ρ' : Ren} (k : ρ.Le ρ') {l : Loc} {o : AO} {o' : Obj} (h : ORel P ρ l o o') : ORel P ρ' l o o' := by
  cases o with
  | row cs e lo => obtain ⟨c, fz, h1, h2⟩ := h; exact ⟨c, fz, h1, h2.mono k⟩
  | obj o => exact ⟨h.1, OORel.mono k h.2⟩
  | tab cs => obtain ⟨c, e, fz, h1, h2⟩ := h; exact ⟨c, e, fz, h1, fun j v hj => let ⟨v', h3, h4⟩ := h2 j v hj; ⟨v', h3, h4.mono k⟩⟩
  | dead => trivial

structure Base where
  G : Nat
  B : Nat
  w0 : World
  val : Nat
  prot : Nat → Prop
structure WRel (P : Program) (b : Base) (ρ : Ren) (s : St) (w : World) : Prop where
  heap : ∀ i o l, s.heap.get i = some o → o ≠ .dead → ρ i = some l → ∃ o', w.heap[l.blk]? = some o' ∧ ORel P ρ l o o'
  inj : ∀ i j o o' l l', i ≠ j → s.heap.get i = some o → o ≠ .dead → s.heap.get j = some o' → o' ≠ .dead → ρ i = some l → ρ j = some l' → l.blk ≠ l'.blk
  dom : ∀ i l, ρ i = some l → i < s.next
  fresh : ∀ i, s.next ≤ i → s.heap.get i = none
  low : ∀ i l, b.G ≤ i → ρ i = some l → b.B ≤ l.blk
  glob : ∀ g, g < b.G → ρ g = some ⟨g, if g + 1 = b.G then b.val else 0, 0⟩
  base : b.G ≤ s.next
  size : b.B ≤ w.heap.size
  below : Below b.B b.w0 w
  apart : ∀ i o l, b.G ≤ i → s.heap.get i = some o → o ≠ .dead → ρ i = some l → ¬ b.prot l.blk
  kept : ∀ k, b.prot k → k < b.w0.heap.size ∧ w.heap[k]? = b.w0.heap[k]?
def setBlk (w : World) (g : Nat) (o : Obj) : World := { w with heap := w.heap.setIfInBounds g o }

section
variable {P : Program} {b : Base} {ρ ρ' : Ren} {s s' : St} {w w' : World}
theorem WRel.globU (h : WRel P b ρ s w) {g : Nat} (hg : g + 1 < b.G) : ρ g = some ⟨g, 0, 0⟩ := by
  rw [h.glob g (by omega), if_neg (by omega)]
structure Ok (P : Program) (b : Base) (ρ : Ren) (s : St) (ρ' : Ren) (s' : St) (w' : World) : Prop where
  ext : ∀ i, i < s.next → ρ' i = ρ i
  next : s.next ≤ s'.next
  pend : ∀ i, i < s.next → ρ i = none → s'.heap.get i = s.heap.get i
  rel : WRel P b ρ' s' w'
theorem Ok.refl (h : WRel P b ρ s w) : Ok P b ρ s ρ s w := ⟨fun _ _ => rfl, Nat.le_refl _, fun _ _ _ => rfl, h⟩
theorem Ok.trans {ρ'' : Ren} {s'' : St} {w'' : World} (h : Ok P b ρ s ρ' s' w') (k : Ok P b ρ' s' ρ'' s'' w'') : Ok P b ρ s ρ'' s'' w'' :=
  ⟨fun i hi => (k.ext i (Nat.lt_of_lt_of_le hi h.next)).trans (h.ext i hi), Nat.le_trans h.next k.next,
    fun i hi hn => (k.pend i (Nat.lt_of_lt_of_le hi h.next) ((h.ext i hi).trans hn)).trans (h.pend i hi hn), k.rel⟩
theorem Ok.le (h : Ok P b ρ s ρ' s' w') (hw : WRel P b ρ s w) : ρ.Le ρ' := fun i l e => (h.ext i (hw.dom i l e)).trans e

theorem heap_setBlk (w : World) (g k : Nat) (o : Obj) : (setBlk w g o).heap[k]? = if g = k then (if g < w.heap.size then some o else none) else w.heap[k]? := by
  simp only [setBlk, Array.getElem?_setIfInBounds]
theorem upd_self (ρ : Ren) (i : Nat) (l : Loc) : (ρ.upd i l) i = some l := by simp [Ren.upd]
theorem upd_ne (ρ : Ren) {i j : Nat} (l : Loc) (h : j ≠ i) : (ρ.upd i l) j = ρ j := by simp [Ren.upd, h]
theorem upd_le (h : WRel P b ρ s w) (l : Loc) : ρ.Le (ρ.upd s.next l) := fun i k e => by
  have := h.dom i k e
  rw [upd_ne _ _ (by omega)]; exact e

theorem WRel.kept_lt (h : WRel P b ρ s w) {k : Nat} (hk : b.prot k) : k < w.heap.size := Nat.lt_of_lt_of_le (h.kept k hk).1 h.below.size
theorem WRel.kept_set (h : WRel P b ρ s w) {g : Nat} (hg : ¬ b.prot g) (o : Obj) : ∀ k, b.prot k → k < b.w0.heap.size ∧ (setBlk w g o).heap[k]? = b.w0.heap[k]? := fun k hk => ⟨(h.kept k hk).1, by
  rw [heap_setBlk, if_neg (by rintro rfl; exact hg hk)]
  exact (h.kept k hk).2⟩
theorem WRel.kept_alloc (h : WRel P b ρ s w) (o : Obj) : ∀ k, b.prot k → k < b.w0.heap.size ∧ (w.alloc o).heap[k]? = b.w0.heap[k]? := fun k hk => ⟨(h.kept k hk).1, (Below.heap_alloc w o k (h.kept_lt hk)).trans (h.kept k hk).2⟩
/-- What lies at an id turns. -/
theorem WRel.set (h : WRel P b ρ s w) {i : Nat} {l : Loc} {o : AO} {o1 : AO} {o' : Obj} (hi : s.heap.get i = some o) (hd : o ≠ .dead) (hl : ρ i = some l) (hG : b.G ≤ i) (ho : ORel P ρ l o1 o') :
    Ok P b ρ s ρ { heap := s.heap.set i o1, next := s.next } (setBlk w l.blk o') := by
  obtain ⟨x, hx, _⟩ := h.heap i o l hi hd hl
  have hlt : l.blk < w.heap.size := (Array.getElem?_eq_some_iff.1 hx).1
  have hB := h.low i l hG hl
  refine ⟨fun _ _ => rfl, Nat.le_refl _, fun j _ hn => ?_, ?_⟩
  · dsimp only
    rw [Tr.get_set, if_neg]
    rintro rfl
    rw [hl] at hn; cases hn
  · refine ⟨fun j p k hj hp hk => ?_, fun j j' p p' k k' hne hj hp hj' hp' hk hk' => ?_, h.dom, fun j hj => ?_, h.low, h.glob, h.base, ?_, ?_, fun j p k hjG hj hp hk => ?_, h.kept_set (h.apart i o l hG hi hd hl) o'⟩
    · dsimp only at hj
      rw [Tr.get_set] at hj
      rw [heap_setBlk]
      by_cases he : j = i
      · subst he
        rw [if_pos rfl] at hj
        rw [hl] at hk
        injection hj with hj; injection hk with hk
        subst hj; subst hk
        rw [if_pos rfl, if_pos hlt]
        exact ⟨o', rfl, ho⟩
      · rw [if_neg he] at hj
        rw [if_neg (fun e => h.inj j i p o k l he hj hp hi hd hk hl e.symm)]
        exact h.heap j p k hj hp hk
    · dsimp only at hj hj'
      rw [Tr.get_set] at hj hj'
      have key : ∀ j p, (if j = i then some o1 else s.heap.get j) = some p → p ≠ .dead → ∃ q, s.heap.get j = some q ∧ q ≠ .dead := fun j p hj hp => by
        by_cases he : j = i
        · subst he; exact ⟨o, hi, hd⟩
        · rw [if_neg he] at hj; exact ⟨p, hj, hp⟩
      obtain ⟨q, h1, h2⟩ := key j p hj hp
      obtain ⟨q', h3, h4⟩ := key j' p' hj' hp'
      exact h.inj j j' q q' k k' hne h1 h2 h3 h4 hk hk'
    · dsimp only
      rw [Tr.get_set, if_neg]
      · exact h.fresh j hj
      · rintro rfl
        exact absurd (h.dom _ _ hl) (by dsimp only at hj; omega)
    · simp [setBlk]; exact h.size
    · refine ⟨h.below.os, h.below.tape, h.below.output, by simp [setBlk]; exact h.below.size, fun k hk => ?_⟩
      rw [heap_setBlk, if_neg (by omega)]
      exact h.below.block k hk
    · dsimp only at hj
      rw [Tr.get_set] at hj
      by_cases he : j = i
      · subst he
        exact h.apart j o k hjG hi hd hk
      · rw [if_neg he] at hj
        exact h.apart j p k hjG hj hp hk
/-- A new block. -/
theorem WRel.new (h : WRel P b ρ s w) (cap : Nat) {o1 : AO} {o' : Obj} (ho : ∀ ρ', ρ.Le ρ' → ρ' s.next = some ⟨w.heap.size, 0, cap⟩ → ORel P ρ' ⟨w.heap.size, 0, cap⟩ o1 o') :
    Ok P b ρ s (ρ.upd s.next ⟨w.heap.size, 0, cap⟩) { heap := s.heap.set s.next o1, next := Nat.succ s.next } (w.alloc o') := by
  have hle := upd_le h ⟨w.heap.size, 0, cap⟩
  have hup := upd_self ρ s.next ⟨w.heap.size, 0, cap⟩
  refine ⟨fun i hi => upd_ne _ _ (by omega), Nat.le_succ _, fun i hi _ => ?_, ?_⟩
  · dsimp only
    rw [Tr.get_set, if_neg (by omega)]
  · have hold : ∀ i l, ρ i = some l → ∀ o, s.heap.get i = some o → o ≠ .dead → l.blk < w.heap.size := fun i l hl o hi hd => by
      obtain ⟨x, hx, _⟩ := h.heap i o l hi hd hl
      exact (Array.getElem?_eq_some_iff.1 hx).1
    refine ⟨fun j p k hj hp hk => ?_, fun j j' p p' k k' hne hj hp hj' hp' hk hk' => ?_, fun i l hl => ?_, fun i hi => ?_, fun i l hi hl => ?_, fun g hg => ?_, ?_, ?_, ?_, fun j p k hjG hj hp hk => ?_, h.kept_alloc o'⟩
    · dsimp only at hj
      rw [Tr.get_set] at hj
      by_cases he : j = s.next
      · subst he
        rw [if_pos rfl] at hj
        rw [hup] at hk
        injection hj with hj; injection hk with hk
        subst hj; subst hk
        exact ⟨o', heap_alloc_new w o', ho _ hle hup⟩
      · rw [if_neg he] at hj
        rw [upd_ne _ _ he] at hk
        obtain ⟨x, hx, hr⟩ := h.heap j p k hj hp hk
        exact ⟨x, (Below.heap_alloc w o' _ (hold j k hk p hj hp)).trans hx, hr.mono hle⟩
    · dsimp only at hj hj'
      rw [Tr.get_set] at hj hj'
      by_cases he : j = s.next
      · subst he
        rw [hup] at hk
        injection hk with hk
        subst hk
        have hne' : j' ≠ s.next := fun e => hne e.symm
        rw [if_neg hne'] at hj'
        rw [upd_ne _ _ hne'] at hk'
        have := hold j' k' hk' p' hj' hp'
        dsimp only; omega
      · rw [if_neg he] at hj
        rw [upd_ne _ _ he] at hk
        by_cases he' : j' = s.next
        · subst he'
          rw [hup] at hk'
          injection hk' with hk'
          subst hk'
          have := hold j k hk p hj hp
          dsimp only; omega
        · rw [if_neg he'] at hj'
          rw [upd_ne _ _ he'] at hk'
          exact h.inj j j' p p' k k' hne hj hp hj' hp' hk hk'
    · by_cases he : i = s.next
      · subst he; exact Nat.lt_succ_self _
      · rw [upd_ne _ _ he] at hl; exact Nat.lt_succ_of_lt (h.dom i l hl)
    · dsimp only at hi ⊢
      rw [Tr.get_set, if_neg (by omega)]
      exact h.fresh i (by omega)
    · by_cases he : i = s.next
      · subst he; rw [hup] at hl; injection hl with hl; subst hl; exact h.size
      · rw [upd_ne _ _ he] at hl; exact h.low i l hi hl
    · rw [upd_ne _ _ (by have := h.base; omega)]; exact h.glob g hg
    · exact Nat.le_succ_of_le h.base
    · have := h.size; simp; omega
    · exact h.below.alloc h.size o'
    · dsimp only at hj
      rw [Tr.get_set] at hj
      by_cases he : j = s.next
      · subst he
        rw [hup] at hk
        injection hk with hk
        subst hk
        intro hpk
        have := h.kept_lt hpk
        dsimp only at this
        omega
      · rw [if_neg he] at hj
        rw [upd_ne _ _ he] at hk
        exact h.apart j p k hjG hj hp hk
/-- A block is known no more. -/
theorem WRel.kill (h : WRel P b ρ s w) {i : Nat} (hi : i < s.next) : WRel P b ρ { heap := s.heap.set i .dead, next := s.next } w := by
  have key : ∀ j p, (s.heap.set i .dead).get j = some p → p ≠ .dead → s.heap.get j = some p := fun j p hj hp => by
    rw [Tr.get_set] at hj
    by_cases he : j = i
    · rw [if_pos he] at hj; injection hj with hj; exact absurd hj.symm hp
    · rw [if_neg he] at hj; exact hj
  refine ⟨fun j p k hj hp hk => h.heap j p k (key j p hj hp) hp hk, fun j j' p p' k k' hne hj hp hj' hp' hk hk' => h.inj j j' p p' k k' hne (key j p hj hp) hp (key j' p' hj' hp') hp' hk hk', h.dom, fun j hj => ?_, h.low, h.glob, h.base, h.size, h.below, fun j p k hjG hj hp hk => h.apart j p k hjG (key j p hj hp) hp hk, h.kept⟩
  dsimp only at hj ⊢
  rw [Tr.get_set, if_neg (by omega)]
  exact h.fresh j hj
/-- A block is gone on with under another id, from a place in it on. -/
theorem WRel.move (h : WRel P b ρ s w) {i : Nat} {l : Loc} {o : AO} {o1 : AO} {o' : Obj} (hi : s.heap.get i = some o) (hd : o ≠ .dead) (hl : ρ i = some l) (hG : b.G ≤ i) (sh cap : Nat)
    (ho : ∀ ρ', ρ.Le ρ' → ρ' s.next = some ⟨l.blk, sh, cap⟩ → ORel P ρ' ⟨l.blk, sh, cap⟩ o1 o') :
    Ok P b ρ s (ρ.upd s.next ⟨l.blk, sh, cap⟩) { heap := (s.heap.set i .dead).set s.next o1, next := Nat.succ s.next } (setBlk w l.blk o') := by
  have hle := upd_le h ⟨l.blk, sh, cap⟩
  have hup := upd_self ρ s.next ⟨l.blk, sh, cap⟩
  obtain ⟨x, hx, _⟩ := h.heap i o l hi hd hl
  have hlt : l.blk < w.heap.size := (Array.getElem?_eq_some_iff.1 hx).1
  have hB := h.low i l hG hl
  have hin := h.dom i l hl
  have key : ∀ j p, j ≠ s.next → ((s.heap.set i .dead).set s.next o1).get j = some p → p ≠ .dead → s.heap.get j = some p ∧ j ≠ i := fun j p hn hj hp => by
    rw [Tr.get_set, if_neg hn, Tr.get_set] at hj
    by_cases he : j = i
    · rw [if_pos he] at hj; injection hj with hj; exact absurd hj.symm hp
    · rw [if_neg he] at hj; exact ⟨hj, he⟩
  refine ⟨fun i hi => upd_ne _ _ (by omega), Nat.le_succ _, fun j hj hn => ?_, ?_⟩
  · dsimp only
    rw [Tr.get_set, if_neg (by omega), Tr.get_set, if_neg]
    rintro rfl
    rw [hl] at hn; cases hn
  · refine ⟨fun j p k hj hp hk => ?_, fun j j' p p' k k' hne hj hp hj' hp' hk hk' => ?_, fun i l hl => ?_, fun i hi => ?_, fun i l hi hl => ?_, fun g hg => ?_, ?_, ?_, ?_, fun j p k hjG hj hp hk => ?_, h.kept_set (h.apart i o l hG hi hd hl) o'⟩
    · dsimp only at hj
      rw [heap_setBlk]
      by_cases he : j = s.next
      · subst he
        rw [Tr.get_set, if_pos rfl] at hj
        rw [hup] at hk
        injection hj with hj; injection hk with hk
        subst hj; subst hk
        rw [if_pos rfl, if_pos hlt]
        exact ⟨o', rfl, ho _ hle hup⟩
      · obtain ⟨h1, h2⟩ := key j p he hj hp
        rw [upd_ne _ _ he] at hk
        rw [if_neg (fun e => h.inj j i p o k l h2 h1 hp hi hd hk hl e.symm)]
        obtain ⟨x, hx, hr⟩ := h.heap j p k h1 hp hk
        exact ⟨x, hx, hr.mono hle⟩
    · dsimp only at hj hj'
      by_cases he : j = s.next
      · subst he
        rw [hup] at hk
        injection hk with hk
        subst hk
        have hne' : j' ≠ s.next := fun e => hne e.symm
        obtain ⟨h1, h2⟩ := key j' p' hne' hj' hp'
        rw [upd_ne _ _ hne'] at hk'
        exact h.inj i j' o p' l k' (fun e => h2 e.symm) hi hd h1 hp' hl hk'
      · obtain ⟨h1, h2⟩ := key j p he hj hp
        rw [upd_ne _ _ he] at hk
        by_cases he' : j' = s.next
        · subst he'
          rw [hup] at hk'
          injection hk' with hk'
          subst hk'
          exact h.inj j i p o k l h2 h1 hp hi hd hk hl
        · obtain ⟨h3, h4⟩ := key j' p' he' hj' hp'
          rw [upd_ne _ _ he'] at hk'
          exact h.inj j j' p p' k k' hne h1 hp h3 hp' hk hk'
    · by_cases he : i = s.next
      · subst he; exact Nat.lt_succ_self _
      · rw [upd_ne _ _ he] at hl; exact Nat.lt_succ_of_lt (h.dom i l hl)
    · dsimp only at hi ⊢
      rw [Tr.get_set, if_neg (by omega), Tr.get_set, if_neg (by omega)]
      exact h.fresh i (by omega)
    · by_cases he : i = s.next
      · subst he; rw [hup] at hl; injection hl with hl; subst hl; exact hB
      · rw [upd_ne _ _ he] at hl; exact h.low i l hi hl
    · rw [upd_ne _ _ (by have := h.base; omega)]; exact h.glob g hg
    · exact Nat.le_succ_of_le h.base
    · simp [setBlk]; exact h.size
    · refine ⟨h.below.os, h.below.tape, h.below.output, by simp [setBlk]; exact h.below.size, fun k hk => ?_⟩
      rw [heap_setBlk, if_neg (by omega)]
      exact h.below.block k hk
    · dsimp only at hj
      by_cases he : j = s.next
      · subst he
        rw [hup] at hk
        injection hk with hk
        subst hk
        exact h.apart i o l hG hi hd hl
      · obtain ⟨h1, h2⟩ := key j p he hj hp
        rw [upd_ne _ _ he] at hk
        exact h.apart j p k hjG h1 hp hk

theorem WRel.drew (h : WRel P b ρ s w) : WRel P b ρ s { w with drawn := w.drawn + 1 } :=
  ⟨h.heap, h.inj, h.dom, h.fresh, h.low, h.glob, h.base, h.size, ⟨h.below.os, h.below.tape, h.below.output, h.below.size, h.below.block⟩, h.apart, h.kept⟩
end
end Go.Proofs.YtdhkebolenbpiaaGreatDoor.X

namespace Go.Proofs.YtdhkebolenbpiaaGreatDoor.X
open Go.RowKit

section
variable {P : Program} {b : Base} {ρ : Ren} {s : St} {w : World}

theorem xu {t : TypeId} {d : TypeDesc} (h : P.underlying t = some d) (w : World) : (underlying t).run P w = .ok d w := by
  simp [underlying, h]
theorem xi {t : TypeId} {i : TypeInfo} (h : P.info? t = some i) (w : World) : (typeInfo t).run P w = .ok i w := by
  simp [typeInfo, h]
theorem xs {t : TypeId} {n : Nat} (h : szT P t = some n) (w : World) : (sizeOf t).run P w = .ok n w := by
  unfold szT at h
  cases hi : P.info? t with
  | none => rw [hi] at h; cases h
  | some i => rw [hi] at h; injection h with h; simp [sizeOf, xi hi, ← h]
theorem xz {t : TypeId} {z : Value} (h : zeroT P t = some z) (w : World) : (zeroValue t).run P w = .ok z w ∧ flat z = true := by
  unfold zeroT at h
  cases hi : P.info? t with
  | none => rw [hi] at h; cases h
  | some i =>
    rw [hi] at h
    cases hz : i.zero with
    | none => simp [hz] at h
    | some z' =>
      simp only [Option.bind_some, hz] at h
      cases hf : flat z' with
      | false => rw [hf] at h; cases h
      | true => rw [hf] at h; injection h with h; subst h; exact ⟨by simp [zeroValue, xi hi, hz], hf⟩
theorem xa {t : TypeId} (h : aggT P t = true) (w : World) : (isAgg t).run P w = .ok true w := by
  unfold aggT at h
  cases hd : P.underlying t with
  | none => rw [hd] at h; cases h
  | some d => rw [hd] at h; cases d <;> simp at h <;> simp [isAgg, xu hd]
theorem xa' {t : TypeId} (h : aggT P t = false) (ho : okT P t = true) (w : World) : (isAgg t).run P w = .ok false w := by
  unfold aggT at h
  unfold okT at ho
  cases hd : P.underlying t with
  | none => rw [hd] at ho; cases ho
  | some d => rw [hd] at h; cases d <;> simp at h <;> simp [isAgg, xu hd]

theorem getRow_some {a : Addr} {cs : List Value} {e : TypeId} {l : Bool} (h : getRow s a = some (cs, e, l)) : s.heap.get a.block = some (.row cs e l) ∧ a.spot = none := by
  unfold getRow at h
  cases hg : s.heap.get a.block with
  | none => rw [hg] at h; cases h
  | some o =>
    rw [hg] at h
    cases o with
    | row cs' e' l' =>
      dsimp only at h
      cases hs : a.spot with
      | none => rw [hs] at h; injection h with h; injection h with h1 h; injection h with h2 h3; subst h1; subst h2; subst h3; exact ⟨rfl, rfl⟩
      | some _ => rw [hs] at h; cases h
    | obj _ => cases h
    | tab _ => cases h
    | dead => cases h
/-- A row that is known, and the block that it is. -/
theorem WRel.row (hw : WRel P b ρ s w) {a a' : Addr} {cs : List Value} {e : TypeId} {l : Bool} (h : getRow s a = some (cs, e, l)) (ha : ARel ρ a a') :
    ∃ k c fz, ρ a.block = some k ∧ a' = ⟨k.blk, k.sh + a.off, none⟩ ∧ s.heap.get a.block = some (.row cs e l) ∧ w.heap[k.blk]? = some (.cells c e fz) ∧ RowRel P ρ k cs e l c fz := by
  obtain ⟨h1, _⟩ := getRow_some h
  obtain ⟨_, k, hk, rfl⟩ := ha
  obtain ⟨o', ho, c, fz, rfl, hr⟩ := hw.heap _ _ k h1 (by simp) hk
  exact ⟨k, c, fz, hk, rfl, h1, ho, hr⟩
theorem WRel.cells (hw : WRel P b ρ s w) {a a' : Addr} {cs : List Value} (h : getCells s a = some cs) (ha : ARel ρ a a') :
    ∃ (k : Loc) (c : Array Value) (e : TypeId) (fz : Nat × Nat), a' = ⟨k.blk, k.sh + a.off, none⟩ ∧ w.heap[k.blk]? = some (.cells c e fz) ∧ ∀ (j : Nat) (v : Value), cs[j]? = some v → ∃ v', c[k.sh + j]? = some v' ∧ VRel ρ v v' := by
  obtain ⟨_, k, hk, rfl⟩ := ha
  unfold getCells at h
  cases hg : s.heap.get a.block with
  | none => rw [hg] at h; cases h
  | some o =>
    rw [hg] at h
    cases o with
    | obj _ => cases h
    | dead => cases h
    | row cs' e' l' =>
      dsimp only at h
      cases hs : a.spot with
      | some _ => rw [hs] at h; cases h
      | none =>
        rw [hs] at h; injection h with h; subst h
        obtain ⟨o', ho, c, fz, rfl, hr⟩ := hw.heap _ _ k hg (by simp) hk
        exact ⟨k, c, _, fz, rfl, ho, hr.2.2.1⟩
    | tab cs' =>
      dsimp only at h
      cases hs : a.spot with
      | some _ => rw [hs] at h; cases h
      | none =>
        rw [hs] at h; injection h with h; subst h
        obtain ⟨o', ho, c, e, fz, rfl, hr⟩ := hw.heap _ _ k hg (by simp) hk
        exact ⟨k, c, e, fz, rfl, ho, hr⟩
theorem cell_of {w : World} {g o : Nat} {c : Array Value} {e : TypeId} {fz : Nat × Nat} (h : w.heap[g]? = some (.cells c e fz)) : w.cell? ⟨g, o, none⟩ = c[o]? := by
  simp [World.cell?, h]
theorem addr_add (g o j : Nat) : (⟨g, o, none⟩ : Addr).add j = ⟨g, o + j, none⟩ := by unfold Addr.add; split <;> simp_all
theorem row_subV {k : Loc} {cs : List Value} {c : Array Value} (h : ∀ (j : Nat) (v : Value), cs[j]? = some v → ∃ v', c[k.sh + j]? = some v' ∧ VRel ρ v v') (n off : Nat) (hn : ((cs.drop off).take n).length = n) :
    LRel ρ ((cs.drop off).take n) ((c.toList.drop (k.sh + off)).take n) ∧ ((c.toList.drop (k.sh + off)).take n).length = n := by
  have key : ∀ (i : Nat) (v : Value), ((cs.drop off).take n)[i]? = some v → ∃ v', ((c.toList.drop (k.sh + off)).take n)[i]? = some v' ∧ VRel ρ v v' := fun i v hv => by
    have hi : i < n := by have := (List.getElem?_eq_some_iff.1 hv).1; omega
    rw [List.getElem?_take, if_pos hi, List.getElem?_drop] at hv
    obtain ⟨v', h1, h2⟩ := h _ _ hv
    refine ⟨v', ?_, h2⟩
    rw [List.getElem?_take, if_pos hi, List.getElem?_drop]
    simpa [Nat.add_assoc] using h1
  have hl : ((c.toList.drop (k.sh + off)).take n).length = n := by
    cases n with
    | zero => simp
    | succ m =>
      have hx : m < ((cs.drop off).take (m + 1)).length := by omega
      obtain ⟨v', h1, _⟩ := key m _ (List.getElem?_eq_getElem hx)
      have := (List.getElem?_eq_some_iff.1 h1).1
      have h2 : ((c.toList.drop (k.sh + off)).take (m + 1)).length ≤ m + 1 := by rw [List.length_take]; omega
      omega
  exact ⟨LRel.of_get (by rw [hn, hl]) key, hl⟩
theorem row_sub {k : Loc} {cs : List Value} {e : TypeId} {l : Bool} {c : Array Value} {fz : Nat × Nat} (h : RowRel P ρ k cs e l c fz) (n off : Nat) (hn : ((cs.drop off).take n).length = n) :
    LRel ρ ((cs.drop off).take n) ((c.toList.drop (k.sh + off)).take n) ∧ ((c.toList.drop (k.sh + off)).take n).length = n := row_subV h.2.2.1 n off hn
theorem run_cells {g o n : Nat} {c : Array Value} {e : TypeId} {fz : Nat × Nat} (h : w.heap[g]? = some (.cells c e fz)) (hl : ((c.toList.drop o).take n).length = n) :
    (loadCells ⟨g, o, none⟩ n).run P w = .ok ((c.toList.drop o).take n).toArray w := by
  have := run_loadCells_list (P := P) w ⟨g, o, none⟩ ((c.toList.drop o).take n) fun j v hv => by
    have hj : j < n := by have := (List.getElem?_eq_some_iff.1 hv).1; omega
    rw [addr_add, cell_of h]
    rw [List.getElem?_take, if_pos hj, List.getElem?_drop] at hv
    simpa using hv
  rwa [hl] at this

/-! ### What is quiet -/
/-- The operation yields a value, and the world stands. -/
def QOk (P : Program) (ρ : Ren) (w : World) (v : Value) (x : Sem Value) : Prop := ∃ v', VRel ρ v v' ∧ x.run P w = .ok v' w

theorem ofO_ok {α β : Type} {o : Option α} {c : Nat} {k : α → Rs β} {r : β} {s' : St} (h : ofO o c k = .ok r s') : ∃ a, o = some a ∧ k a = .ok r s' := by
  cases o with
  | none => cases h
  | some a => exact ⟨a, rfl, h⟩
theorem bif_ok {c : Bool} {β : Type} {x : Rs β} {a d : Nat} {r : β} {s' : St} (h : (bif c then x else .no a d) = .ok r s') : c = true ∧ x = .ok r s' := by
  cases c with
  | false => cases h
  | true => exact ⟨rfl, h⟩

theorem doLoad_ok {t : TypeId} {p p' v : Value} {s' : St} (h : doLoad P t p s = .ok v s') (hp : VRel ρ p p') (hw : WRel P b ρ s w) : s' = s ∧ QOk P ρ w v (Instr.loadAt t p') := by
  unfold doLoad at h
  cases hp with
  | ptr a a' ha =>
    dsimp only at h
    cases hr : getCells s a with
    | none => rw [hr] at h; cases h
    | some cs =>
      rw [hr] at h
      dsimp only at h
      obtain ⟨k, c, e, fz, rfl, hc, hrr⟩ := hw.cells hr ha
      cases hag : aggT P t with
      | true =>
        rw [hag] at h
        simp only [cond_true] at h
        cases hz : szT P t with
        | none => rw [hz] at h; cases h
        | some n =>
          rw [hz] at h
          obtain ⟨h1, h2⟩ := bif_ok h
          rw [takeL_eq, dropL_eq] at h1 h2
          rw [lenL_eq] at h1
          injection h2 with h2 h3
          subst h2; subst h3
          obtain ⟨h4, h5⟩ := row_subV hrr n a.off (Nat.eq_of_beq_eq_true h1)
          refine ⟨rfl, _, .agg _ _ h4, ?_⟩
          simp [Instr.loadAt, Instr.sureAddr, loadVar, xa hag, xs hz, run_cells hc h5]
      | false =>
        rw [hag] at h
        simp only [cond_false] at h
        obtain ⟨h1, h2⟩ := bif_ok h
        rw [nth_eq] at h2
        cases hn : cs[a.off]? with
        | none => rw [hn] at h2; cases h2
        | some u =>
          rw [hn] at h2
          injection h2 with h2 h3
          subst h2; subst h3
          obtain ⟨u', h4, h5⟩ := hrr _ _ hn
          refine ⟨rfl, u', h5, ?_⟩
          simp [Instr.loadAt, Instr.sureAddr, loadVar, xa' hag h1, cell_of hc, h4]
  | _ => cases h
end
end Go.Proofs.YtdhkebolenbpiaaGreatDoor.X

namespace Go.Proofs.YtdhkebolenbpiaaGreatDoor.X
open Go.RowKit

/-! ### Numbers between bounds -/
section
variable {P : Program} {b : Base} {ρ : Ren} {s : St} {w : World}
theorem mx_wrap (k : IntKind) (n : Nat) (h : n ≤ mxK k) : k.wrap (n : Int) = n := by
  cases k <;> simp only [mxK, IntKind.wrap, IntKind.bits, IntKind.signed] at h ⊢ <;> simp <;> omega
theorem mx_mod (k : IntKind) (n : Nat) (h : n ≤ mxK k) : n % 2 ^ k.bits = n := by
  refine Nat.mod_eq_of_lt ?_
  cases k <;> simp only [mxK, IntKind.bits] at h ⊢ <;> omega
theorem mx_ofInt (k : IntKind) (n : Nat) (h : n ≤ mxK k) : (BitVec.ofInt k.bits (n : Int)).toNat = n := by
  rw [BitVec.ofInt_natCast, BitVec.toNat_ofNat, mx_mod k n h]
theorem mx_and (k : IntKind) (m n : Nat) (h : m ≤ mxK k) (h' : n ≤ mxK k) : k.wrap (BitVec.ofInt k.bits (m : Int) &&& BitVec.ofInt k.bits (n : Int)).toNat = ((m &&& n : Nat) : Int) := by
  rw [BitVec.toNat_and, mx_ofInt k m h, mx_ofInt k n h']
  exact mx_wrap k _ (Nat.le_trans Nat.and_le_left h)
theorem lt_upTo {x n : Nat} (h : x ≤ n) : x < 2 ^ (Nat.log2 n + 1) := Nat.lt_of_le_of_lt h Nat.lt_log2_self
theorem or_upTo {x y n : Nat} (h : x ≤ n) (h' : y ≤ n) : x ||| y ≤ upTo n := by
  have := Nat.or_lt_two_pow (lt_upTo h) (lt_upTo h')
  unfold upTo
  omega
theorem xor_upTo {x y n : Nat} (h : x ≤ n) (h' : y ≤ n) : x ^^^ y ≤ upTo n := by
  have := Nat.xor_lt_two_pow (lt_upTo h) (lt_upTo h')
  unfold upTo
  omega
theorem bnds_ok {a a' : Value} {k : IntKind} {lo hi : Nat} (h : bnds a = some (k, lo, hi)) (ha : VRel ρ a a') : ∃ x : Nat, a' = .int k x ∧ lo ≤ x ∧ x ≤ hi := by
  unfold bnds at h
  split at h
  · cases h; cases ha; exact ⟨_, rfl, Nat.le_refl _, Nat.le_refl _⟩
  · cases h; cases ha; rename_i x hx; exact ⟨x, rfl, hx.1, hx.2⟩
  · rename_i i b
    cases hb : Nat.beq b 0 with
    | true => rw [hb] at h; cases h
    | false =>
      rw [hb] at h
      simp only [cond_false] at h
      cases h
      cases ha
      rename_i l x hl hx
      have h0 : b ≠ 0 := fun e => by subst e; cases hb
      have h1 := hx.2 h0
      refine ⟨x.toNat, ?_, by omega, by omega⟩
      rw [Int.toNat_of_nonneg (by omega)]
  · cases h; cases ha; rename_i x hx; exact ⟨x, rfl, Nat.zero_le _, by omega⟩
  · cases h; cases ha; rename_i x hx; exact ⟨x, rfl, Nat.zero_le _, by omega⟩
  · rename_i i n
    cases hb : isFld n with
    | false => rw [hb] at h; cases h
    | true =>
      rw [hb] at h
      simp only [cond_true, Option.some.injEq, Prod.mk.injEq] at h
      obtain ⟨rfl, rfl, rfl⟩ := h
      cases ha
      rename_i l hl hv
      obtain ⟨_, _, g⟩ := isFld_num hb
      have g2 := clamp_in g (fldQ (nQ n) l.sh / 2 ^ nSh n % 2 ^ nW n)
      exact ⟨_, hv.trans (sv_fld l.sh hb), g2.1, g2.2⟩
  · cases h
theorem mkR_ok {k : IntKind} {lo hi x : Nat} {v : Value} {s' : St} (h : mkR k lo hi s = .ok v s') (h1 : lo ≤ x) (h2 : x ≤ hi) : s' = s ∧ VRel ρ v (.int k x) := by
  unfold mkR at h
  cases hb : Nat.beq lo hi with
  | true =>
    rw [hb] at h
    injection h with e1 e2
    subst e1; subst e2
    have := Nat.eq_of_beq_eq_true hb
    have : lo = x := by omega
    subst this
    exact ⟨rfl, .int _ _⟩
  | false =>
    rw [hb] at h
    simp only [cond_false] at h
    cases hc : (decide (rK (rCode k lo hi) = k) && (Nat.beq (rLo (rCode k lo hi)) lo && Nat.beq (rHi (rCode k lo hi)) hi)) with
    | false => rw [hc] at h; cases h
    | true =>
      rw [hc] at h
      injection h with e1 e2
      subst e1; subst e2
      simp only [Bool.and_eq_true, decide_eq_true_eq] at hc
      have g1 := Nat.eq_of_beq_eq_true hc.2.1
      have g2 := Nat.eq_of_beq_eq_true hc.2.2
      have := VRel.rng (ρ := ρ) (rCode k lo hi) x ⟨by omega, by omega⟩
      rw [hc.1] at this
      exact ⟨rfl, this⟩
theorem ltR_ok {la ha lb hb x y : Nat} {r : Bool} (h : ltR la ha lb hb = some r) (h1 : la ≤ x) (h2 : x ≤ ha) (h3 : lb ≤ y) (h4 : y ≤ hb) : r = decide (x < y) := by
  unfold ltR at h
  cases hc : Nat.blt ha lb with
  | true =>
    rw [hc] at h
    injection h with h
    subst h
    have : ha < lb := Nat.le_of_ble_eq_true hc
    exact (decide_eq_true (by omega)).symm
  | false =>
    rw [hc] at h
    simp only [cond_false] at h
    cases hd : Nat.ble hb la with
    | false => rw [hd] at h; cases h
    | true =>
      rw [hd] at h
      injection h with h
      subst h
      have := Nat.le_of_ble_eq_true hd
      exact (decide_eq_false (by omega)).symm
theorem eqR_ok {la ha lb hb x y : Nat} {r : Bool} (h : eqR la ha lb hb = some r) (h1 : la ≤ x) (h2 : x ≤ ha) (h3 : lb ≤ y) (h4 : y ≤ hb) : r = decide (x = y) := by
  unfold eqR at h
  cases hc : (Nat.blt ha lb || Nat.blt hb la) with
  | true =>
    rw [hc] at h
    injection h with h
    subst h
    rw [Bool.or_eq_true] at hc
    refine (decide_eq_false ?_).symm
    rcases hc with hc | hc
    · have : ha < lb := Nat.le_of_ble_eq_true hc
      omega
    · have : hb < la := Nat.le_of_ble_eq_true hc
      omega
  | false =>
    rw [hc] at h
    simp only [cond_false] at h
    cases hd : ((Nat.beq la ha && Nat.beq lb hb) && Nat.beq la lb) with
    | false => rw [hd] at h; cases h
    | true =>
      rw [hd] at h
      injection h with h
      subst h
      simp only [Bool.and_eq_true] at hd
      have e1 := Nat.eq_of_beq_eq_true hd.1.1
      have e2 := Nat.eq_of_beq_eq_true hd.1.2
      have e3 := Nat.eq_of_beq_eq_true hd.2
      exact (decide_eq_true (by omega)).symm
def holdsI (op : BinOp) (x y : Int) : Bool :=
  match op with
  | .lss => decide (x < y) | .gtr => decide (y < x) | .leq => decide (x ≤ y) | .geq => decide (y ≤ x) | .eql => decide (x = y) | .neq => decide (x ≠ y)
  | _ => false
def isCmp (op : BinOp) : Bool := match op with | .lss | .gtr | .leq | .geq | .eql | .neq => true | _ => false
theorem cmpR_ok {op : BinOp} {la ha lb hb x y : Nat} {r : Bool} (h : cmpR op la ha lb hb = some r) (h1 : la ≤ x) (h2 : x ≤ ha) (h3 : lb ≤ y) (h4 : y ≤ hb) : isCmp op = true ∧ ∀ d : Int, r = holdsI op (d + x) (d + y) := by
  cases op <;> first | (cases h; done) | skip
  case eql =>
    have := eqR_ok h h1 h2 h3 h4
    exact ⟨rfl, fun d => by rw [this]; simp only [holdsI]; congr 1; simp only [eq_iff_iff]; omega⟩
  case neq =>
    simp only [cmpR] at h
    cases hq : eqR la ha lb hb with
    | none => rw [hq] at h; cases h
    | some q =>
      rw [hq] at h
      injection h with h
      have := eqR_ok hq h1 h2 h3 h4
      subst this; subst h
      exact ⟨rfl, fun d => by simp only [holdsI]; rw [← decide_not]; congr 1; simp only [eq_iff_iff]; omega⟩
  case lss =>
    have := ltR_ok h h1 h2 h3 h4
    exact ⟨rfl, fun d => by rw [this]; simp only [holdsI]; congr 1; simp only [eq_iff_iff]; omega⟩
  case gtr =>
    have := ltR_ok h h3 h4 h1 h2
    exact ⟨rfl, fun d => by rw [this]; simp only [holdsI]; congr 1; simp only [eq_iff_iff]; omega⟩
  case leq =>
    simp only [cmpR] at h
    cases hq : ltR lb hb la ha with
    | none => rw [hq] at h; cases h
    | some q =>
      rw [hq] at h
      injection h with h
      have := ltR_ok hq h3 h4 h1 h2
      subst this; subst h
      exact ⟨rfl, fun d => by simp only [holdsI]; rw [← decide_not]; congr 1; simp only [eq_iff_iff]; omega⟩
  case geq =>
    simp only [cmpR] at h
    cases hq : ltR la ha lb hb with
    | none => rw [hq] at h; cases h
    | some q =>
      rw [hq] at h
      injection h with h
      have := ltR_ok hq h1 h2 h3 h4
      subst this; subst h
      exact ⟨rfl, fun d => by simp only [holdsI]; rw [← decide_not]; congr 1; simp only [eq_iff_iff]; omega⟩
theorem cmpUp_ok {op : BinOp} {r : Bool} (h : cmpUp op = some r) (x y : Int) (hx : 0 ≤ x) (hy : y < 0) : isCmp op = true ∧ r = holdsI op x y := by
  cases op <;> first | (cases h; done) | skip
  all_goals
    injection h with h
    subst h
    refine ⟨rfl, ?_⟩
    simp only [holdsI]
    symm
    first
      | (rw [decide_eq_true_eq]; omega)
      | (rw [decide_eq_false_iff_not]; omega)
theorem cmpDn_ok {op : BinOp} {r : Bool} (h : cmpDn op = some r) (x y : Int) (hx : 0 ≤ x) (hy : y < 0) : isCmp op = true ∧ r = holdsI op y x := by
  cases op <;> first | (cases h; done) | skip
  all_goals
    injection h with h
    subst h
    refine ⟨rfl, ?_⟩
    simp only [holdsI]
    symm
    first
      | (rw [decide_eq_true_eq]; omega)
      | (rw [decide_eq_false_iff_not]; omega)
theorem bin_holds {op : BinOp} (h : isCmp op = true) (t : TypeId) (x y : Operand) (k : IntKind) (m n : Int) : ((do eqGuard op t x y (.int k m) (.int k n); binOp op t (.int k m) (.int k n)) : Sem Value).run P w = .ok (.bool (holdsI op m n)) w := by
  cases op <;> first | (cases h; done) | skip
  all_goals simp [eqGuard, binOp, Op.intCmp, holdsI]
  · by_cases hh : m = n <;> simp [hh]
  · by_cases hh : m = n <;> simp [hh]
end
end Go.Proofs.YtdhkebolenbpiaaGreatDoor.X
