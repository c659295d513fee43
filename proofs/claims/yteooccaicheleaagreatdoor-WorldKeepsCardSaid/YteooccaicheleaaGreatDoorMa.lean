/- Words for memory: blocks known whole, data that is read, data in layers. -/
import Derived.Below
import Derived.Laws.OwnMore
import Derived.Deep.AppendLies
import Derived.Deep.Draws
import Derived.Maps.AppendAt
import Derived.RegionTactic
import Derived.OwnWalk
import Derived.Lib.Hide
import Derived.WalkKit
namespace Go.RowKit
theorem Below.al {a w : World} (h : Below a.heap.size a w) (o : Obj) : Below a.heap.size a (w.alloc o) := h.alloc h.size o
theorem Below.st1 {a w : World} (h : Below a.heap.size a w) {i j : Nat} (u : Value) : Below a.heap.size a (w.setCell ⟨a.heap.size + i, j, none⟩ u) := h.setCell (Nat.le_add_right _ _) u
theorem Below.tr {a w w' : World} (h : Below a.heap.size a w) (k : Below w.heap.size w w') : Below a.heap.size a w' := h.trans (k.mono h.size)
theorem Below.st {a w : World} (h : Below a.heap.size a w) {p : Addr} (hp : a.heap.size ≤ p.block) (u : Value) : Below a.heap.size a (w.setCell p u) := h.setCell hp u
theorem Below.drewN {a w : World} {B : Nat} (h : Below B a w) (q : Nat) : Below B a (w.drewN q) := ⟨h.os, h.tape, h.output, h.size, h.block⟩
end Go.RowKit
namespace Go.Proofs.YteooccaicheleaaGreatDoor
open Go.RowKit

/-! ### Blocks -/

/-- Block g is just these cells, none frozen. -/
def Blk (w : World) (g : Nat) (t : TypeId) (cs : List Value) : Prop := w.heap[g]? = some (.cells cs.toArray t (0, 0))

section
variable {w w' : World} {g : Nat} {t : TypeId} {cs : List Value}
theorem Blk.lt (h : Blk w g t cs) : g < w.heap.size := by
  unfold Blk at h
  exact (Array.getElem?_eq_some_iff.1 h).1
theorem Blk.cell (h : Blk w g t cs) (i : Nat) : w.cell? ⟨g, i, none⟩ = cs[i]? := by
  unfold Blk at h
  simp [World.cell?, h]
theorem Blk.frozen (h : Blk w g t cs) (i : Nat) : w.frozen? ⟨g, i, none⟩ = false := by
  unfold Blk at h
  simp [World.frozen?, h]
theorem Blk.new (w : World) (t : TypeId) (cs : List Value) : Blk (w.alloc (.cells cs.toArray t)) w.heap.size t cs := heap_alloc_new w _
theorem Blk.new1 (w : World) (o : Obj) (t : TypeId) (cs : List Value) : Blk ((w.alloc o).alloc (.cells cs.toArray t)) (w.heap.size + 1) t cs := by
  have h := Blk.new (w.alloc o) t cs
  simpa using h
theorem Blk.drew (h : Blk w g t cs) : Blk w.drew g t cs := h
theorem Blk.drewN (h : Blk w g t cs) (n : Nat) : Blk (w.drewN n) g t cs := h
theorem Blk.alloc (h : Blk w g t cs) (o : Obj) : Blk (w.alloc o) g t cs := (Below.heap_alloc w o g h.lt).trans h
theorem Blk.set_ (h : Blk w g t cs) (i : Nat) (u : Value) : Blk (w.setCell ⟨g, i, none⟩ u) g t (cs.set i u) := by
  unfold Blk at h ⊢
  simp [World.setCell, Array.getElem?_modify, h]
theorem Blk.far (h : Blk w g t cs) {p : Addr} (hp : g ≠ p.block) (u : Value) : Blk (w.setCell p u) g t cs := (Below.heap_setCell w p u g hp).trans h
theorem Blk.below {B : Nat} (h : Blk w g t cs) (hb : Below B w w') (hg : g < B) : Blk w' g t cs := (hb.block g hg).trans h
theorem Blk.ext (h : Blk w g t cs) (hb : Below w.heap.size w w') : Blk w' g t cs := h.below hb h.lt
theorem Blk.grown {row : Option Nat} (h : Blk w g t cs) (hb : w.grownBy w' row) (hg : some g ≠ row) : Blk w' g t cs := (hb.block g h.lt hg).trans h
theorem Blk.eq_ {cs' : List Value} {t' : TypeId} (h : Blk w g t cs) (h' : Blk w g t' cs') : cs = cs' ∧ t = t' := by
  unfold Blk at h h'
  rw [h] at h'
  simpa using h'
theorem Blk.ne_ {g' : Nat} {t' : TypeId} {cs' : List Value} (h : Blk w g t cs) (h' : Blk w g' t' cs') (hne : t ≠ t') : g ≠ g' := by
  rintro rfl
  exact hne (h.eq_ h').2
theorem Blk.to {cs' : List Value} (h : Blk w g t cs) (e : cs = cs') : Blk w g t cs' := e ▸ h
theorem own_blk_ne {base : Nat} {e : TypeId} {size n : Nat} {v : Value} {xs : List Value} (h : w.ownsRow base e size v n xs) (hg : Blk w g t cs) (hne : e ≠ t) : v.ownBlock ≠ some g := by
  rcases h.2 with ⟨rfl, _⟩ | ⟨g', cap, cur, rfl, _, hh, _⟩
  · simp [Value.ownBlock]
  · intro he
    have : g' = g := by simpa [Value.ownBlock] using he
    subst this
    unfold Blk at hg
    rw [hh] at hg
    injection hg with hg
    injection hg with _ ht
    exact hne ht
end

theorem bcell {W w1 : World} (hb : Below W.heap.size W w1) : (∀ b o, b < W.heap.size → w1.cell? ⟨b, o, none⟩ = W.cell? ⟨b, o, none⟩) ∧ (∀ b o, b < W.heap.size → w1.frozen? ⟨b, o, none⟩ = W.frozen? ⟨b, o, none⟩) :=
  ⟨fun b o h => hb.cell (p := ⟨b, o, none⟩) h, fun b o h => hb.frozen (p := ⟨b, o, none⟩) h⟩
theorem ret_int {k : IntKind} {a b : Int} (h : a = b) : Ending.returned (.int k a) = .returned (.int k b) := by rw [h]
theorem ret_bool {a b : Bool} (h : a = b) : Ending.returned (.bool a) = .returned (.bool b) := by rw [h]
theorem take_snoc {α : Type} (l : List α) (k : Nat) (h : k < l.length) : l.take (k + 1) = l.take k ++ [l[k]] := by
  rw [List.take_succ_eq_append_getElem h]
theorem results_blk {P : Program} {fn : Func} {p : Tmp} {ty : TypeId} (h : fn.results = #[.cell p ty]) (tmps : Array Value) {w : World} {g : Nat} {t : TypeId} {cs : List Value} {d : TypeDesc}
    (hg : Blk w g t cs) (hp : tmps.getD p undef = .pointer (some ⟨g, 0, none⟩))
    (hu : P.underlying ty = some d) (hd : (match d with | .struct _ | .array _ _ => true | _ => false) = true) (hi : (P.info? ty).map (·.size) = some cs.length) :
    (results fn tmps).run P w = .ok (.agg cs.toArray) w :=
  results_cell_row h tmps w g t cs.toArray (0, 0) d hp hg hu hd (by simpa using hi)
theorem bodyPost_blk {P : Program} {fn : Func} {R : Ending → World → Prop} {a : Act} {p : Tmp} {ty : TypeId} (h : fn.results = #[.cell p ty]) {w : World} {g : Nat} {t : TypeId} {cs : List Value} {d : TypeDesc}
    (hg : Blk w g t cs) (hp : a.tmps.getD p undef = .pointer (some ⟨g, 0, none⟩))
    (hu : P.underlying ty = some d) (hd : (match d with | .struct _ | .array _ _ => true | _ => false) = true) (hi : (P.info? ty).map (·.size) = some cs.length)
    (hdef : a.defers = []) (hR : R (.returned (.agg cs.toArray)) w) : bodyPost P fn R .ret a w :=
  bodyPost_ret (results_blk h a.tmps hg hp hu hd hi) hdef hR
/-- The world under a name, with what is known of it. -/
theorem forget {M : World → Prop} (F : World → Prop) {W0 : World} (hf : F W0) (h : ∀ W, F W → M W) : M W0 := h W0 hf
theorem wrap_in (n : Int) (h : -9223372036854775808 ≤ n ∧ n ≤ 9223372036854775807) : wrap64 n = n := by unfold wrap64; omega
theorem add_off (b o j : Nat) : (⟨b, o, none⟩ : Addr).add j = ⟨b, o + j, none⟩ := by unfold Addr.add; split <;> simp_all
theorem block_of_add (a : Addr) (n : Nat) : (a.add n).block = a.block := by unfold Addr.add; split <;> rfl
theorem add_of_add (a : Addr) (i j : Nat) : (a.add i).add j = a.add (i + j) := by
  unfold Addr.add
  by_cases hi : i = 0 <;> by_cases hj : j = 0 <;> simp [hi, hj, Nat.add_assoc]
theorem lt_of_cell {w : World} {a : Addr} {u : Value} (h : w.cell? a = some u) : a.block < w.heap.size := by
  by_cases hl : a.block < w.heap.size
  · exact hl
  · exfalso
    have : w.heap[a.block]? = none := Array.getElem?_eq_none (by omega)
    unfold World.cell? at h
    simp [this] at h

/-! ### What is the same -/

/-- The blocks of P are as they were. -/
def Same (P : Nat → Prop) (w w' : World) : Prop := ∀ g, P g → g < w.heap.size → w'.heap[g]? = w.heap[g]?
/-- No block has turned but those of F, and new ones. -/
structure Only (F : Nat → Prop) (w w' : World) : Prop where
  os : w'.os = w.os
  tape : w'.tape = w.tape
  output : w'.output = w.output
  size : w.heap.size ≤ w'.heap.size
  block : ∀ g, g < w.heap.size → ¬ F g → w'.heap[g]? = w.heap[g]?

section
variable {P Q F G : Nat → Prop} {w w' w'' : World} {B : Nat}
theorem Same.refl (P : Nat → Prop) (w : World) : Same P w w := fun _ _ _ => rfl
theorem Same.of_below (h : Below w.heap.size w w') : Same P w w' := fun g _ hg => h.block g hg
theorem Same.of_belowB (h : Below B w w') (hB : ∀ g, P g → g < B) : Same P w w' := fun g hp _ => h.block g (hB g hp)
theorem Same.of_only (h : Only F w w') (hd : ∀ g, P g → ¬ F g) : Same P w w' := fun g hp hg => h.block g hg (hd g hp)
theorem Same.trans (h : Same P w w') (hs : w.heap.size ≤ w'.heap.size) (k : Same P w' w'') : Same P w w'' := fun g hp hg => (k g hp (by omega)).trans (h g hp hg)
theorem Same.set_ {p : Addr} (hp : ¬ P p.block) (u : Value) : Same P w (w.setCell p u) := fun g hg _ => Below.heap_setCell w p u g (fun e => hp (e ▸ hg))
theorem Only.refl (F : Nat → Prop) (w : World) : Only F w w := ⟨rfl, rfl, rfl, Nat.le_refl _, fun _ _ _ => rfl⟩
theorem Only.of_below (h : Below w.heap.size w w') : Only F w w' := ⟨h.os, h.tape, h.output, h.size, fun g hg _ => h.block g hg⟩
theorem Only.of_belowB (h : Below B w w') (hB : ∀ g, B ≤ g → F g) : Only F w w' := ⟨h.os, h.tape, h.output, h.size, fun g _ hf => h.block g (Nat.lt_of_not_le fun k => hf (hB g k))⟩
theorem Only.mono (h : Only F w w') (k : ∀ g, F g → G g) : Only G w w' := ⟨h.os, h.tape, h.output, h.size, fun g hg hn => h.block g hg (fun f => hn (k g f))⟩
theorem Only.trans (h : Only F w w') (k : Only G w' w'') (hG : ∀ g, g < w.heap.size → G g → F g) : Only F w w'' :=
  ⟨k.os.trans h.os, k.tape.trans h.tape, k.output.trans h.output, Nat.le_trans h.size k.size, fun g hg hn => (k.block g (Nat.lt_of_lt_of_le hg h.size) (fun x => hn (hG g hg x))).trans (h.block g hg hn)⟩
theorem Only.tr (h : Only F w w') (k : Only F w' w'') : Only F w w'' := h.trans k (fun _ _ x => x)
theorem Only.low (h : Only F w w') (hB : ∀ g, F g → B ≤ g) (hB2 : B ≤ w.heap.size) : Below B w w' := ⟨h.os, h.tape, h.output, h.size, fun g hg => h.block g (by omega) (fun f => by have := hB g f; omega)⟩
theorem Only.below (h : Only F w w') (hB : ∀ g, g < w.heap.size → ¬ F g) : Below w.heap.size w w' := ⟨h.os, h.tape, h.output, h.size, fun g hg => h.block g hg (hB g hg)⟩
theorem Only.set_ {p : Addr} (hp : F p.block) (u : Value) : Only F w (w.setCell p u) := ⟨rfl, rfl, rfl, by simp, fun g _ hn => Below.heap_setCell w p u g (fun e => hn (e ▸ hp))⟩
theorem Only.alloc (o : Obj) : Only F w (w.alloc o) := ⟨rfl, rfl, rfl, by simp, fun g hg _ => Below.heap_alloc w o g hg⟩
theorem Only.drew : Only F w w.drew := ⟨rfl, rfl, rfl, Nat.le_refl _, fun _ _ _ => rfl⟩
theorem Only.grown {row : Option Nat} (h : w.grownBy w' row) (hr : ∀ g, row = some g → F g) : Only F w w' := ⟨h.os, h.tape, h.output, h.size, fun g hg hn => h.block g hg (fun e => hn (hr g e.symm))⟩
theorem Blk.only {t : TypeId} {cs : List Value} (h : Blk w B t cs) (hb : Only F w w') (hn : ¬ F B) : Blk w' B t cs := (hb.block B h.lt hn).trans h
theorem Blk.same {t : TypeId} {cs : List Value} (h : Blk w B t cs) (hb : Same P w w') (hn : P B) : Blk w' B t cs := (hb B hn h.lt).trans h
end

/-! ### Data in layers -/

/-- How a datum of α lies in cells: with what it leads to lying in blocks of P. -/
structure Rep (α : Type) where
  size : Nat
  rep : World → (Nat → Prop) → List Value → α → Prop
  pos : 0 < size
  len : ∀ {w P cs a}, rep w P cs a → cs.length = size
  one : ∀ {w P cs a}, rep w P cs a → ∀ u ∈ cs, u.oneCell' = true
  same : ∀ {w w' P cs a}, rep w P cs a → Same P w w' → rep w' P cs a
  mono : ∀ {w P Q cs a}, rep w P cs a → (∀ g, P g → g < w.heap.size → Q g) → rep w Q cs a

/-- A row of such data from address A on. -/
def Rep.Row {α : Type} (R : Rep α) (w : World) (P : Nat → Prop) (A : Option Addr) (l : List α) : Prop :=
  0 < l.length → ∃ b o, A = some ⟨b, o, none⟩ ∧ P b ∧ b < w.heap.size ∧ ∀ i a, l[i]? = some a → ∃ cs, R.rep w P cs a ∧ ∀ j u, cs[j]? = some u → w.cell? ⟨b, o + i * R.size + j, none⟩ = some u

section
variable {α β γ : Type} {R : Rep α} {w w' : World} {P Q : Nat → Prop} {A : Option Addr} {l : List α}
theorem Rep.Row.nil_ : R.Row w P A [] := fun h => absurd h (by simp)
theorem Rep.Row.same (h : R.Row w P A l) (hs : Same P w w') (hz : w.heap.size ≤ w'.heap.size) : R.Row w' P A l := fun hl => by
  obtain ⟨b, o, e, hp, hb, hc⟩ := h hl
  refine ⟨b, o, e, hp, by omega, fun i a hi => ?_⟩
  obtain ⟨cs, hr, hcs⟩ := hc i a hi
  exact ⟨cs, R.same hr hs, fun j u hu => (World.cell?_of_block (w := w) (hs b hp hb)).trans (hcs j u hu)⟩
theorem Rep.Row.mono (h : R.Row w P A l) (hs : ∀ g, P g → g < w.heap.size → Q g) : R.Row w Q A l := fun hl => by
  obtain ⟨b, o, e, hp, hb, hc⟩ := h hl
  refine ⟨b, o, e, hs b hp hb, hb, fun i a hi => ?_⟩
  obtain ⟨cs, hr, hcs⟩ := hc i a hi
  exact ⟨cs, R.mono hr hs, hcs⟩
theorem Rep.Row.ext (h : R.Row w P A l) (hb : Below w.heap.size w w') : R.Row w' P A l := h.same (Same.of_below hb) hb.size
/-- One of a row. -/
theorem Rep.Row.at_ (h : R.Row w P A l) {k : Nat} {a : α} (hk : l[k]? = some a) : ∃ b o cs, A = some ⟨b, o, none⟩ ∧ P b ∧ b < w.heap.size ∧ R.rep w P cs a ∧ ∀ j u, cs[j]? = some u → w.cell? ⟨b, o + k * R.size + j, none⟩ = some u := by
  obtain ⟨b, o, e, hp, hb, hc⟩ := h (Nat.lt_of_le_of_lt (Nat.zero_le _) (List.getElem?_eq_some_iff.1 hk).1)
  obtain ⟨cs, hr, hcs⟩ := hc k a hk
  exact ⟨b, o, cs, e, hp, hb, hr, hcs⟩
/-- A part of a row. -/
theorem Rep.Row.cut (h : R.Row w P A l) {k n cap : Nat} (hk : k ≤ l.length) (hc : l.length ≤ cap) : R.Row w P (if cap = k then A else A.map (·.add (k * R.size))) ((l.drop k).take n) := fun hl => by
  have hkl : k < l.length := by simp at hl; omega
  obtain ⟨b, o, rfl, hp, hb, hcc⟩ := h (by omega)
  rw [if_neg (by omega)]
  refine ⟨b, o + k * R.size, by simp [add_off], hp, hb, fun i a hi => ?_⟩
  rw [List.getElem?_take] at hi
  split at hi
  · rw [List.getElem?_drop] at hi
    obtain ⟨cs, hr, hcs⟩ := hcc (k + i) a hi
    refine ⟨cs, hr, fun j u hu => ?_⟩
    have := hcs j u hu
    rw [show o + (k + i) * R.size + j = o + k * R.size + i * R.size + j from by rw [Nat.add_mul]; omega] at this
    exact this
  · cases hi
theorem Rep.Row.pre (h : R.Row w P A l) (n : Nat) : R.Row w P A (l.take n) := fun hl => by
  obtain ⟨b, o, e, hp, hb, hcc⟩ := h (by simp at hl; omega)
  exact ⟨b, o, e, hp, hb, fun i a hi => hcc i a (by rw [List.getElem?_take] at hi; split at hi; exact hi; cases hi)⟩

/-- The cells of a list. -/
def Rep.flat (R : Rep α) (w : World) (P : Nat → Prop) (xs : List Value) (l : List α) : Prop :=
  ∃ css : List (List Value), xs = css.flatten ∧ css.length = l.length ∧ ∀ (i : Nat) (cs : List Value) (a : α), css[i]? = some cs → l[i]? = some a → R.rep w P cs a

theorem Rep.flat.nil_ : R.flat w P [] [] := ⟨[], rfl, rfl, by simp⟩
theorem Rep.flat.one_ {cs : List Value} {a : α} (h : R.rep w P cs a) : R.flat w P cs [a] := ⟨[cs], by simp, rfl, fun i cs' a' h1 h2 => by
  cases i with
  | zero => simp at h1 h2; subst h1 h2; exact h
  | succ i => simp at h1⟩
theorem Rep.flat.app {xs ys : List Value} {l m : List α} (h : R.flat w P xs l) (k : R.flat w P ys m) : R.flat w P (xs ++ ys) (l ++ m) := by
  obtain ⟨c1, rfl, n1, f1⟩ := h
  obtain ⟨c2, rfl, n2, f2⟩ := k
  refine ⟨c1 ++ c2, by simp, by simp [n1, n2], fun i cs a h1 h2 => ?_⟩
  by_cases hi : i < c1.length
  · rw [List.getElem?_append_left hi] at h1
    rw [List.getElem?_append_left (by omega)] at h2
    exact f1 i cs a h1 h2
  · rw [List.getElem?_append_right (by omega)] at h1 h2
    rw [n1] at h1
    exact f2 _ cs a h1 h2
theorem Rep.flat.same {xs : List Value} (h : R.flat w P xs l) (hs : Same P w w') : R.flat w' P xs l := by
  obtain ⟨c, e, n, f⟩ := h
  exact ⟨c, e, n, fun i cs a h1 h2 => R.same (f i cs a h1 h2) hs⟩
theorem Rep.flat.mono {xs : List Value} (h : R.flat w P xs l) (hs : ∀ g, P g → g < w.heap.size → Q g) : R.flat w Q xs l := by
  obtain ⟨c, e, n, f⟩ := h
  exact ⟨c, e, n, fun i cs a h1 h2 => R.mono (f i cs a h1 h2) hs⟩
theorem flatten_len {css : List (List Value)} {s : Nat} (h : ∀ cs ∈ css, cs.length = s) : css.flatten.length = css.length * s := by
  induction css with
  | nil => simp
  | cons c l ih => rw [List.flatten_cons, List.length_append, h c (by simp), ih (fun cs hc => h cs (by simp [hc])), List.length_cons, Nat.add_mul]; omega
theorem flatten_at {css : List (List Value)} {s : Nat} (h : ∀ cs ∈ css, cs.length = s) {i : Nat} {cs : List Value} (hi : css[i]? = some cs) {j : Nat} (hj : j < s) : css.flatten[i * s + j]? = cs[j]? := by
  induction css generalizing i with
  | nil => simp at hi
  | cons c l ih =>
    rw [List.flatten_cons]
    have hc := h c (by simp)
    cases i with
    | zero =>
      simp at hi; subst hi
      rw [List.getElem?_append_left (by omega)]; simp
    | succ i =>
      simp only [List.getElem?_cons_succ] at hi
      rw [List.getElem?_append_right (by rw [hc, Nat.add_mul]; omega), hc, show (i + 1) * s + j - s = i * s + j from by rw [Nat.add_mul]; omega]
      exact ih (fun cs hc => h cs (by simp [hc])) hi
theorem Rep.flat.lens {xs : List Value} (h : R.flat w P xs l) : xs.length = l.length * R.size := by
  obtain ⟨c, rfl, n, f⟩ := h
  rw [flatten_len (s := R.size), n]
  intro cs hcs
  obtain ⟨i, hi, rfl⟩ := List.getElem_of_mem hcs
  exact R.len (f i _ _ (List.getElem?_eq_getElem hi) (List.getElem?_eq_getElem (by omega)))
theorem Rep.flat.ones {xs : List Value} (h : R.flat w P xs l) : ∀ u ∈ xs, u.oneCell' = true := by
  obtain ⟨c, rfl, n, f⟩ := h
  intro u hu
  obtain ⟨cs, hcs, hu⟩ := List.mem_flatten.1 hu
  obtain ⟨i, hi, rfl⟩ := List.getElem_of_mem hcs
  exact R.one (f i _ _ (List.getElem?_eq_getElem hi) (List.getElem?_eq_getElem (by omega))) u hu
/-- What is owned is a row. -/
theorem Rep.flat.row {xs : List Value} {base : Nat} {e : TypeId} {n c : Nat} (h : R.flat w P xs l) (ho : w.ownsRow base e R.size (.slice A n c) n xs) (hP : ∀ g, base ≤ g → P g) : R.Row w P A l := fun hl => by
  obtain ⟨css, rfl, hn, f⟩ := h
  have hlen : ∀ cs ∈ css, cs.length = R.size := by
    intro cs hcs
    obtain ⟨i, hi, rfl⟩ := List.getElem_of_mem hcs
    exact R.len (f i _ _ (List.getElem?_eq_getElem hi) (List.getElem?_eq_getElem (by omega)))
  have hnl : n = l.length := by
    have h1 := ho.1
    rw [flatten_len hlen, hn] at h1
    exact (Nat.mul_right_cancel R.pos h1).symm
  obtain ⟨g, cap, hv, hb, hlt⟩ := ho.form (by omega)
  have hA : A = some ⟨g, 0, none⟩ := by injection hv
  subst hA
  refine ⟨g, 0, rfl, hP g hb, hlt, fun i a hi => ?_⟩
  have hil : i < css.length := by have := (List.getElem?_eq_some_iff.1 hi).1; omega
  refine ⟨css[i], f i _ _ (List.getElem?_eq_getElem hil) hi, fun j u hu => ?_⟩
  have hj : j < R.size := by have h1 := (List.getElem?_eq_some_iff.1 hu).1; rwa [hlen _ (List.getElem_mem hil)] at h1
  have h1 := flatten_at hlen (List.getElem?_eq_getElem hil) hj
  rw [hu] at h1
  have := ho.cells (g := g) rfl _ u h1
  rw [add_off] at this
  rw [← Nat.add_assoc] at this
  exact this
/-- A row's cells, as an append reads them. -/
theorem Rep.Row.flat (h : R.Row w P A l) : ∃ xs, R.flat w P xs l ∧ xs.length = l.length * R.size ∧ (0 < l.length → ∃ b o, A = some ⟨b, o, none⟩ ∧ P b ∧ b < w.heap.size ∧ ∀ j u, xs[j]? = some u → w.cell? ⟨b, o + j, none⟩ = some u) := by
  by_cases hl : 0 < l.length
  · obtain ⟨b, o, rfl, hp, hb, hc⟩ := h hl
    have key : ∀ k, k ≤ l.length → ∃ css : List (List Value), css.length = k ∧ ∀ (i : Nat) (cs : List Value) (a : α), css[i]? = some cs → l[i]? = some a → R.rep w P cs a ∧ ∀ j u, cs[j]? = some u → w.cell? ⟨b, o + i * R.size + j, none⟩ = some u := by
      intro k
      induction k with
      | zero => intro _; exact ⟨[], rfl, by simp⟩
      | succ k ih =>
        intro hk
        obtain ⟨css, hn, f⟩ := ih (by omega)
        obtain ⟨cs, hr, hcs⟩ := hc k l[k] (List.getElem?_eq_getElem (by omega))
        refine ⟨css ++ [cs], by simp [hn], fun i cs' a h1 h2 => ?_⟩
        by_cases hi : i < k
        · rw [List.getElem?_append_left (by omega)] at h1
          exact f i cs' a h1 h2
        · rw [List.getElem?_append_right (by omega), hn] at h1
          have hik : i = k := by
            have := (List.getElem?_eq_some_iff.1 h1).1
            simp at this; omega
          subst hik
          simp at h1
          subst h1
          rw [List.getElem?_eq_getElem (by omega)] at h2
          cases h2
          exact ⟨hr, hcs⟩
    obtain ⟨css, hn, f⟩ := key l.length (Nat.le_refl _)
    have hf : R.flat w P css.flatten l := ⟨css, rfl, hn, fun i cs a h1 h2 => (f i cs a h1 h2).1⟩
    refine ⟨css.flatten, hf, hf.lens, fun _ => ⟨b, o, rfl, hp, hb, fun j u hu => ?_⟩⟩
    have hlen : ∀ cs ∈ css, cs.length = R.size := by
      intro cs hcs
      obtain ⟨i, hi, rfl⟩ := List.getElem_of_mem hcs
      exact R.len (f i _ _ (List.getElem?_eq_getElem hi) (List.getElem?_eq_getElem (by omega))).1
    have hjl := (List.getElem?_eq_some_iff.1 hu).1
    rw [flatten_len hlen] at hjl
    have hq : j / R.size < css.length := Nat.div_lt_of_lt_mul (by rw [Nat.mul_comm]; exact hjl)
    have hm : j % R.size < R.size := Nat.mod_lt _ R.pos
    have he : j / R.size * R.size + j % R.size = j := by rw [Nat.mul_comm]; exact Nat.div_add_mod _ _
    have h1 := flatten_at hlen (List.getElem?_eq_getElem hq) hm
    rw [he, hu] at h1
    have := (f _ _ _ (List.getElem?_eq_getElem hq) (List.getElem?_eq_getElem (show j / R.size < l.length by omega))).2 _ u h1.symm
    rw [Nat.add_assoc, he] at this
    exact this
  · have : l = [] := List.eq_nil_of_length_eq_zero (by omega)
    subst this
    exact ⟨[], Rep.flat.nil_, by simp, fun h => absurd h (by simp)⟩

/-! ### The kinds of data -/
def IntR : Rep Int where
  size := 1
  rep _ _ cs n := cs = [.int .i64 n] ∧ -9223372036854775808 ≤ n ∧ n ≤ 9223372036854775807
  pos := by decide
  len h := by simp [h.1]
  one h := by simp [h.1, Value.oneCell']
  same h _ := h
  mono h _ := h
def StrR : Rep ByteArray where
  size := 1
  rep _ _ cs s := cs = [.string s] ∧ s.size ≤ 9223372036854775807
  pos := by decide
  len h := by simp [h.1]
  one h := by simp [h.1, Value.oneCell']
  same h _ := h
  mono h _ := h
def BoolR : Rep Bool where
  size := 1
  rep _ _ cs b := cs = [.bool b]
  pos := by decide
  len h := by simp [h]
  one h := by simp [h, Value.oneCell']
  same h _ := h
  mono h _ := h
/-- One behind the other. -/
def Rep.cat (R : Rep α) (S : Rep β) : Rep (α × β) where
  size := R.size + S.size
  rep w P cs p := ∃ c1 c2, cs = c1 ++ c2 ∧ R.rep w P c1 p.1 ∧ S.rep w P c2 p.2
  pos := Nat.add_pos_left R.pos _
  len := by rintro w P cs p ⟨c1, c2, rfl, h1, h2⟩; rw [List.length_append, R.len h1, S.len h2]
  one := by
    rintro w P cs p ⟨c1, c2, rfl, h1, h2⟩ u hu
    rcases List.mem_append.1 hu with h | h
    · exact R.one h1 u h
    · exact S.one h2 u h
  same := by rintro w w' P cs p ⟨c1, c2, rfl, h1, h2⟩ hs; exact ⟨c1, c2, rfl, R.same h1 hs, S.same h2 hs⟩
  mono := by rintro w P Q cs p ⟨c1, c2, rfl, h1, h2⟩ hs; exact ⟨c1, c2, rfl, R.mono h1 hs, S.mono h2 hs⟩
/-- Seen as another type's. -/
def Rep.via (R : Rep α) (f : β → α) : Rep β where
  size := R.size
  rep w P cs b := R.rep w P cs (f b)
  pos := R.pos
  len := R.len
  one := R.one
  same := R.same
  mono := R.mono
/-- A slice of such. -/
def Rep.sl (R : Rep α) : Rep (List α) where
  size := 1
  rep w P cs l := ∃ A c, cs = [.slice A l.length c] ∧ l.length ≤ c ∧ c ≤ 9223372036854775807 ∧ R.Row w P A l
  pos := by decide
  len := by rintro w P cs l ⟨A, c, rfl, _⟩; rfl
  one := by rintro w P cs l ⟨A, c, rfl, _⟩; simp [Value.oneCell']
  same := by
    rintro w w' P cs l ⟨A, c, rfl, h1, h2, h3⟩ hs
    refine ⟨A, c, rfl, h1, h2, fun hl => ?_⟩
    obtain ⟨b, o, e, hp, hb, hc⟩ := h3 hl
    refine ⟨b, o, e, hp, ?_, fun i a hi => ?_⟩
    · have := hs b hp hb
      rw [Array.getElem?_eq_getElem hb] at this
      exact (Array.getElem?_eq_some_iff.1 this).1
    · obtain ⟨cs, hr, hcs⟩ := hc i a hi
      exact ⟨cs, R.same hr hs, fun j u hu => (World.cell?_of_block (w := w) (hs b hp hb)).trans (hcs j u hu)⟩
  mono := by
    rintro w P Q cs l ⟨A, c, rfl, h1, h2, h3⟩ hs
    exact ⟨A, c, rfl, h1, h2, h3.mono hs⟩
end
end Go.Proofs.YteooccaicheleaaGreatDoor
