/- Words for memory: blocks known whole, data that is read, data in layers. Slices that the call makes: appended to, in layers. The program's data, plain; how each lies in memory. A region that draws its order, walked in one order: first what only reads, then the rest, one behind the other. Small functions, walked: comparing, counting, hashing, runes. -/
import Derived.Below
import Derived.Laws.OwnMore
import Derived.Deep.AppendLies
import Derived.Deep.Draws
import Derived.Maps.AppendAt
import Derived.RegionTactic
import Derived.OwnWalk
import Derived.Lib.Hide
import Derived.WalkKit
import Derived.StillTail
import Derived.StillTailTactics
import Derived.Laws.World
import Derived.Deep.QuietTactic
import Derived.BigQuiet
import Derived.Test.YtcmjgghkmdbphaaGreatDoorProg
import Derived.WalkSpells
import Derived.WalkLawsBesides
import Derived.Deep.RegionHeld3
import Derived.Deep.Light
set_option maxRecDepth 20000
set_option maxHeartbeats 25600000
namespace Go.RowKit
theorem Below.al {a w : World} (h : Below a.heap.size a w) (o : Obj) : Below a.heap.size a (w.alloc o) := h.alloc h.size o
theorem Below.tr {a w w' : World} (h : Below a.heap.size a w) (k : Below w.heap.size w w') : Below a.heap.size a w' := h.trans (k.mono h.size)
theorem Below.st {a w : World} (h : Below a.heap.size a w) {p : Addr} (hp : a.heap.size ≤ p.block) (u : Value) : Below a.heap.size a (w.setCell p u) := h.setCell hp u
theorem Below.drewN {a w : World} {B : Nat} (h : Below B a w) (q : Nat) : Below B a (w.drewN q) := ⟨h.os, h.tape, h.output, h.size, h.block⟩
end Go.RowKit
namespace Go.Proofs.YtcmjgghkmdbphaaGreatDoor
open Go.RowKit
def Blk (w : World) (g : Nat) (t : TypeId) (cs : List Value) : Prop := w.heap[g]? = some (.cells cs.toArray t (0, 0))
section
variable {w w' : World} {g : Nat} {t : TypeId} {cs : List Value}
theorem Blk.lt (h : Blk w g t cs) : g < w.heap.size := by
 unfold Blk at h
 exact (Array.getElem?_eq_some_iff.1 h).1
theorem Blk.cell (h : Blk w g t cs) (i : Nat) : w.cell? ⟨g, i, none⟩ = cs[i]? := by
 unfold Blk at h
 simp [World.cell?, h]
theorem Blk.frozen (h : Blk w g t cs) (i : Nat) : w.frozen? ⟨g, i, none⟩ = false := by
 unfold Blk at h
 simp [World.frozen?, h]
theorem Blk.new (w : World) (t : TypeId) (cs : List Value) : Blk (w.alloc (.cells cs.toArray t)) w.heap.size t cs := heap_alloc_new w _
theorem Blk.new1 (w : World) (o : Obj) (t : TypeId) (cs : List Value) : Blk ((w.alloc o).alloc (.cells cs.toArray t)) (w.heap.size + 1) t cs := by
 have h := Blk.new (w.alloc o) t cs
 simpa using h
theorem Blk.drew (h : Blk w g t cs) : Blk w.drew g t cs := h
theorem Blk.drewN (h : Blk w g t cs) (n : Nat) : Blk (w.drewN n) g t cs := h
theorem Blk.alloc (h : Blk w g t cs) (o : Obj) : Blk (w.alloc o) g t cs := (Below.heap_alloc w o g h.lt).trans h
theorem Blk.set_ (h : Blk w g t cs) (i : Nat) (u : Value) : Blk (w.setCell ⟨g, i, none⟩ u) g t (cs.set i u) := by
 unfold Blk at h ⊢
 simp [World.setCell, Array.getElem?_modify, h]
theorem Blk.far (h : Blk w g t cs) {p : Addr} (hp : g ≠ p.block) (u : Value) : Blk (w.setCell p u) g t cs := (Below.heap_setCell w p u g hp).trans h
theorem Blk.below {B : Nat} (h : Blk w g t cs) (hb : Below B w w') (hg : g < B) : Blk w' g t cs := (hb.block g hg).trans h
theorem Blk.ext (h : Blk w g t cs) (hb : Below w.heap.size w w') : Blk w' g t cs := h.below hb h.lt
theorem Blk.grown {row : Option Nat} (h : Blk w g t cs) (hb : w.grownBy w' row) (hg : some g ≠ row) : Blk w' g t cs := (hb.block g h.lt hg).trans h
theorem Blk.eq_ {cs' : List Value} {t' : TypeId} (h : Blk w g t cs) (h' : Blk w g t' cs') : cs = cs' ∧ t = t' := by
 unfold Blk at h h'
 rw [h] at h'
 simpa using h'
theorem Blk.ne_ {g' : Nat} {t' : TypeId} {cs' : List Value} (h : Blk w g t cs) (h' : Blk w g' t' cs') (hne : t ≠ t') : g ≠ g' := by
 rintro rfl
 exact hne (h.eq_ h').2
theorem Blk.to {cs' : List Value} (h : Blk w g t cs) (e : cs = cs') : Blk w g t cs' := e ▸ h
theorem own_blk_ne {base : Nat} {e : TypeId} {size n : Nat} {v : Value} {xs : List Value} (h : w.ownsRow base e size v n xs) (hg : Blk w g t cs) (hne : e ≠ t) : v.ownBlock ≠ some g := by
 rcases h.2 with ⟨rfl, _⟩ | ⟨g', cap, cur, rfl, _, hh, _⟩
 ·simp [Value.ownBlock]
 ·intro he
  have : g' = g := by simpa [Value.ownBlock] using he
  subst this
  unfold Blk at hg
  rw [hh] at hg
  injection hg with hg
  injection hg with _ ht
  exact hne ht
end
theorem bcell {W w1 : World} (hb : Below W.heap.size W w1) : (∀ b o, b < W.heap.size → w1.cell? ⟨b, o, none⟩ = W.cell? ⟨b, o, none⟩) ∧ (∀ b o, b < W.heap.size → w1.frozen? ⟨b, o, none⟩ = W.frozen? ⟨b, o, none⟩) :=
 ⟨fun b o h => hb.cell (p := ⟨b, o, none⟩) h, fun b o h => hb.frozen (p := ⟨b, o, none⟩) h⟩
theorem ret_int {k : IntKind} {a b : Int} (h : a = b) : Ending.returned (.int k a) = .returned (.int k b) := by rw [h]
theorem ret_bool {a b : Bool} (h : a = b) : Ending.returned (.bool a) = .returned (.bool b) := by rw [h]
theorem take_snoc {α : Type} (l : List α) (k : Nat) (h : k < l.length) : l.take (k + 1) = l.take k ++ [l[k]] := by
 rw [List.take_succ_eq_append_getElem h]
theorem results_blk {P : Program} {fn : Func} {p : Tmp} {ty : TypeId} (h : fn.results = #[.cell p ty]) (tmps : Array Value) {w : World} {g : Nat} {t : TypeId} {cs : List Value} {d : TypeDesc}
 (hg : Blk w g t cs) (hp : tmps.getD p undef = .pointer (some ⟨g, 0, none⟩))
 (hu : P.underlying ty = some d) (hd : (match d with | .struct _ | .array _ _ => true | _ => false) = true) (hi : (P.info? ty).map (·.size) = some cs.length) :
 (results fn tmps).run P w = .ok (.agg cs.toArray) w :=
 results_cell_row h tmps w g t cs.toArray (0, 0) d hp hg hu hd (by simpa using hi)
theorem bodyPost_blk {P : Program} {fn : Func} {R : Ending → World → Prop} {a : Act} {p : Tmp} {ty : TypeId} (h : fn.results = #[.cell p ty]) {w : World} {g : Nat} {t : TypeId} {cs : List Value} {d : TypeDesc}
 (hg : Blk w g t cs) (hp : a.tmps.getD p undef = .pointer (some ⟨g, 0, none⟩))
 (hu : P.underlying ty = some d) (hd : (match d with | .struct _ | .array _ _ => true | _ => false) = true) (hi : (P.info? ty).map (·.size) = some cs.length)
 (hdef : a.defers = []) (hR : R (.returned (.agg cs.toArray)) w) : bodyPost P fn R .ret a w :=
 bodyPost_ret (results_blk h a.tmps hg hp hu hd hi) hdef hR
theorem forget {M : World → Prop} (F : World → Prop) {W0 : World} (hf : F W0) (h : ∀ W, F W → M W) : M W0 := h W0 hf
theorem wrap_in (n : Int) (h : -9223372036854775808 ≤ n ∧ n ≤ 9223372036854775807) : wrap64 n = n := by unfold wrap64; omega
theorem add_off (b o j : Nat) : (⟨b, o, none⟩ : Addr).add j = ⟨b, o + j, none⟩ := by unfold Addr.add; split <;> simp_all
theorem lt_of_cell {w : World} {a : Addr} {u : Value} (h : w.cell? a = some u) : a.block < w.heap.size := by
 by_cases hl : a.block < w.heap.size
 ·exact hl
 ·exfalso
  have : w.heap[a.block]? = none := Array.getElem?_eq_none (by omega)
  unfold World.cell? at h
  simp [this] at h
def Same (P : Nat → Prop) (w w' : World) : Prop := ∀ g, P g → g < w.heap.size → w'.heap[g]? = w.heap[g]?
structure Only (F : Nat → Prop) (w w' : World) : Prop where
 os : w'.os = w.os
 tape : w'.tape = w.tape
 output : w'.output = w.output
 size : w.heap.size ≤ w'.heap.size
 block : ∀ g, g < w.heap.size → ¬ F g → w'.heap[g]? = w.heap[g]?
section
variable {P Q F G : Nat → Prop} {w w' w'' : World} {B : Nat}
theorem Same.of_below (h : Below w.heap.size w w') : Same P w w' := fun g _ hg => h.block g hg
theorem Same.of_belowB (h : Below B w w') (hB : ∀ g, P g → g < B) : Same P w w' := fun g hp _ => h.block g (hB g hp)
theorem Same.of_only (h : Only F w w') (hd : ∀ g, P g → ¬ F g) : Same P w w' := fun g hp hg => h.block g hg (hd g hp)
theorem Same.set_ {p : Addr} (hp : ¬ P p.block) (u : Value) : Same P w (w.setCell p u) := fun g hg _ => Below.heap_setCell w p u g (fun e => hp (e ▸ hg))
theorem Only.refl (F : Nat → Prop) (w : World) : Only F w w := ⟨rfl, rfl, rfl, Nat.le_refl _, fun _ _ _ => rfl⟩
theorem Only.of_below (h : Below w.heap.size w w') : Only F w w' := ⟨h.os, h.tape, h.output, h.size, fun g hg _ => h.block g hg⟩
theorem Only.of_belowB (h : Below B w w') (hB : ∀ g, B ≤ g → F g) : Only F w w' := ⟨h.os, h.tape, h.output, h.size, fun g _ hf => h.block g (Nat.lt_of_not_le fun k => hf (hB g k))⟩
theorem Only.mono (h : Only F w w') (k : ∀ g, F g → G g) : Only G w w' := ⟨h.os, h.tape, h.output, h.size, fun g hg hn => h.block g hg (fun f => hn (k g f))⟩
theorem Only.trans (h : Only F w w') (k : Only G w' w'') (hG : ∀ g, g < w.heap.size → G g → F g) : Only F w w'' :=
 ⟨k.os.trans h.os, k.tape.trans h.tape, k.output.trans h.output, Nat.le_trans h.size k.size, fun g hg hn => (k.block g (Nat.lt_of_lt_of_le hg h.size) (fun x => hn (hG g hg x))).trans (h.block g hg hn)⟩
theorem Only.tr (h : Only F w w') (k : Only F w' w'') : Only F w w'' := h.trans k (fun _ _ x => x)
theorem Only.low (h : Only F w w') (hB : ∀ g, F g → B ≤ g) (hB2 : B ≤ w.heap.size) : Below B w w' := ⟨h.os, h.tape, h.output, h.size, fun g hg => h.block g (by omega) (fun f => by have := hB g f; omega)⟩
theorem Only.set_ {p : Addr} (hp : F p.block) (u : Value) : Only F w (w.setCell p u) := ⟨rfl, rfl, rfl, by simp, fun g _ hn => Below.heap_setCell w p u g (fun e => hn (e ▸ hp))⟩
theorem Only.alloc (o : Obj) : Only F w (w.alloc o) := ⟨rfl, rfl, rfl, by simp, fun g hg _ => Below.heap_alloc w o g hg⟩
theorem Only.drew : Only F w w.drew := ⟨rfl, rfl, rfl, Nat.le_refl _, fun _ _ _ => rfl⟩
theorem Only.grown {row : Option Nat} (h : w.grownBy w' row) (hr : ∀ g, row = some g → F g) : Only F w w' := ⟨h.os, h.tape, h.output, h.size, fun g hg hn => h.block g hg (fun e => hn (hr g e.symm))⟩
theorem Blk.only {t : TypeId} {cs : List Value} (h : Blk w B t cs) (hb : Only F w w') (hn : ¬ F B) : Blk w' B t cs := (hb.block B h.lt hn).trans h
theorem Blk.same {t : TypeId} {cs : List Value} (h : Blk w B t cs) (hb : Same P w w') (hn : P B) : Blk w' B t cs := (hb B hn h.lt).trans h
end
structure Rep (α : Type) where
 size : Nat
 rep : World → (Nat → Prop) → List Value → α → Prop
 pos : 0 < size
 len : ∀ {w P cs a}, rep w P cs a → cs.length = size
 one : ∀ {w P cs a}, rep w P cs a → ∀ u ∈ cs, u.oneCell' = true
 same : ∀ {w w' P cs a}, rep w P cs a → Same P w w' → rep w' P cs a
 mono : ∀ {w P Q cs a}, rep w P cs a → (∀ g, P g → g < w.heap.size → Q g) → rep w Q cs a
def Rep.Row {α : Type} (R : Rep α) (w : World) (P : Nat → Prop) (A : Option Addr) (l : List α) : Prop :=
 0 < l.length → ∃ b o, A = some ⟨b, o, none⟩ ∧ P b ∧ b < w.heap.size ∧ ∀ i a, l[i]? = some a → ∃ cs, R.rep w P cs a ∧ ∀ j u, cs[j]? = some u → w.cell? ⟨b, o + i * R.size + j, none⟩ = some u
section
variable {α β γ : Type} {R : Rep α} {w w' : World} {P Q : Nat → Prop} {A : Option Addr} {l : List α}
theorem Rep.Row.nil_ : R.Row w P A [] := fun h => absurd h (by simp)
theorem Rep.Row.same (h : R.Row w P A l) (hs : Same P w w') (hz : w.heap.size ≤ w'.heap.size) : R.Row w' P A l := fun hl => by
 obtain ⟨b, o, e, hp, hb, hc⟩ := h hl
 refine ⟨b, o, e, hp, by omega, fun i a hi => ?_⟩
 obtain ⟨cs, hr, hcs⟩ := hc i a hi
 exact ⟨cs, R.same hr hs, fun j u hu => (World.cell?_of_block (w := w) (hs b hp hb)).trans (hcs j u hu)⟩
theorem Rep.Row.mono (h : R.Row w P A l) (hs : ∀ g, P g → g < w.heap.size → Q g) : R.Row w Q A l := fun hl => by
 obtain ⟨b, o, e, hp, hb, hc⟩ := h hl
 refine ⟨b, o, e, hs b hp hb, hb, fun i a hi => ?_⟩
 obtain ⟨cs, hr, hcs⟩ := hc i a hi
 exact ⟨cs, R.mono hr hs, hcs⟩
theorem Rep.Row.ext (h : R.Row w P A l) (hb : Below w.heap.size w w') : R.Row w' P A l := h.same (Same.of_below hb) hb.size
theorem Rep.Row.at_ (h : R.Row w P A l) {k : Nat} {a : α} (hk : l[k]? = some a) : ∃ b o cs, A = some ⟨b, o, none⟩ ∧ P b ∧ b < w.heap.size ∧ R.rep w P cs a ∧ ∀ j u, cs[j]? = some u → w.cell? ⟨b, o + k * R.size + j, none⟩ = some u := by
 obtain ⟨b, o, e, hp, hb, hc⟩ := h (Nat.lt_of_le_of_lt (Nat.zero_le _) (List.getElem?_eq_some_iff.1 hk).1)
 obtain ⟨cs, hr, hcs⟩ := hc k a hk
 exact ⟨b, o, cs, e, hp, hb, hr, hcs⟩
theorem Rep.Row.cut (h : R.Row w P A l) {k n cap : Nat} (hk : k ≤ l.length) (hc : l.length ≤ cap) : R.Row w P (if cap = k then A else A.map (·.add (k * R.size))) ((l.drop k).take n) := fun hl => by
 have hkl : k < l.length := by simp at hl; omega
 obtain ⟨b, o, rfl, hp, hb, hcc⟩ := h (by omega)
 rw [if_neg (by omega)]
 refine ⟨b, o + k * R.size, by simp [add_off], hp, hb, fun i a hi => ?_⟩
 rw [List.getElem?_take] at hi
 split at hi
 ·rw [List.getElem?_drop] at hi
  obtain ⟨cs, hr, hcs⟩ := hcc (k + i) a hi
  refine ⟨cs, hr, fun j u hu => ?_⟩
  have := hcs j u hu
  rw [show o + (k + i) * R.size + j = o + k * R.size + i * R.size + j from by rw [Nat.add_mul]; omega] at this
  exact this
 ·cases hi
theorem Rep.Row.pre (h : R.Row w P A l) (n : Nat) : R.Row w P A (l.take n) := fun hl => by
 obtain ⟨b, o, e, hp, hb, hcc⟩ := h (by simp at hl; omega)
 exact ⟨b, o, e, hp, hb, fun i a hi => hcc i a (by rw [List.getElem?_take] at hi; split at hi; exact hi; cases hi)⟩
def Rep.flat (R : Rep α) (w : World) (P : Nat → Prop) (xs : List Value) (l : List α) : Prop :=
 ∃ css : List (List Value), xs = css.flatten ∧ css.length = l.length ∧ ∀ (i : Nat) (cs : List Value) (a : α), css[i]? = some cs → l[i]? = some a → R.rep w P cs a
theorem Rep.flat.nil_ : R.flat w P [] [] := ⟨[], rfl, rfl, by simp⟩
theorem Rep.flat.app {xs ys : List Value} {l m : List α} (h : R.flat w P xs l) (k : R.flat w P ys m) : R.flat w P (xs ++ ys) (l ++ m) := by
 obtain ⟨c1, rfl, n1, f1⟩ := h
 obtain ⟨c2, rfl, n2, f2⟩ := k
 refine ⟨c1 ++ c2, by simp, by simp [n1, n2], fun i cs a h1 h2 => ?_⟩
 by_cases hi : i < c1.length
 ·rw [List.getElem?_append_left hi] at h1
  rw [List.getElem?_append_left (by omega)] at h2
  exact f1 i cs a h1 h2
 ·rw [List.getElem?_append_right (by omega)] at h1 h2
  rw [n1] at h1
  exact f2 _ cs a h1 h2
theorem Rep.flat.same {xs : List Value} (h : R.flat w P xs l) (hs : Same P w w') : R.flat w' P xs l := by
 obtain ⟨c, e, n, f⟩ := h
 exact ⟨c, e, n, fun i cs a h1 h2 => R.same (f i cs a h1 h2) hs⟩
theorem Rep.flat.mono {xs : List Value} (h : R.flat w P xs l) (hs : ∀ g, P g → g < w.heap.size → Q g) : R.flat w Q xs l := by
 obtain ⟨c, e, n, f⟩ := h
 exact ⟨c, e, n, fun i cs a h1 h2 => R.mono (f i cs a h1 h2) hs⟩
theorem flatten_len {css : List (List Value)} {s : Nat} (h : ∀ cs ∈ css, cs.length = s) : css.flatten.length = css.length * s := by
 induction css with
 | nil => simp
 | cons c l ih => rw [List.flatten_cons, List.length_append, h c (by simp), ih (fun cs hc => h cs (by simp [hc])), List.length_cons, Nat.add_mul]; omega
theorem flatten_at {css : List (List Value)} {s : Nat} (h : ∀ cs ∈ css, cs.length = s) {i : Nat} {cs : List Value} (hi : css[i]? = some cs) {j : Nat} (hj : j < s) : css.flatten[i * s + j]? = cs[j]? := by
 induction css generalizing i with
 | nil => simp at hi
 | cons c l ih =>
   rw [List.flatten_cons]
   have hc := h c (by simp)
   cases i with
   | zero =>
     simp at hi; subst hi
     rw [List.getElem?_append_left (by omega)]; simp
   | succ i =>
     simp only [List.getElem?_cons_succ] at hi
     rw [List.getElem?_append_right (by rw [hc, Nat.add_mul]; omega), hc, show (i + 1) * s + j - s = i * s + j from by rw [Nat.add_mul]; omega]
     exact ih (fun cs hc => h cs (by simp [hc])) hi
theorem Rep.flat.lens {xs : List Value} (h : R.flat w P xs l) : xs.length = l.length * R.size := by
 obtain ⟨c, rfl, n, f⟩ := h
 rw [flatten_len (s := R.size), n]
 intro cs hcs
 obtain ⟨i, hi, rfl⟩ := List.getElem_of_mem hcs
 exact R.len (f i _ _ (List.getElem?_eq_getElem hi) (List.getElem?_eq_getElem (by omega)))
theorem Rep.flat.ones {xs : List Value} (h : R.flat w P xs l) : ∀ u ∈ xs, u.oneCell' = true := by
 obtain ⟨c, rfl, n, f⟩ := h
 intro u hu
 obtain ⟨cs, hcs, hu⟩ := List.mem_flatten.1 hu
 obtain ⟨i, hi, rfl⟩ := List.getElem_of_mem hcs
 exact R.one (f i _ _ (List.getElem?_eq_getElem hi) (List.getElem?_eq_getElem (by omega))) u hu
theorem Rep.flat.row {xs : List Value} {base : Nat} {e : TypeId} {n c : Nat} (h : R.flat w P xs l) (ho : w.ownsRow base e R.size (.slice A n c) n xs) (hP : ∀ g, base ≤ g → P g) : R.Row w P A l := fun hl => by
 obtain ⟨css, rfl, hn, f⟩ := h
 have hlen : ∀ cs ∈ css, cs.length = R.size := by
  intro cs hcs
  obtain ⟨i, hi, rfl⟩ := List.getElem_of_mem hcs
  exact R.len (f i _ _ (List.getElem?_eq_getElem hi) (List.getElem?_eq_getElem (by omega)))
 have hnl : n = l.length := by
  have h1 := ho.1
  rw [flatten_len hlen, hn] at h1
  exact (Nat.mul_right_cancel R.pos h1).symm
 obtain ⟨g, cap, hv, hb, hlt⟩ := ho.form (by omega)
 have hA : A = some ⟨g, 0, none⟩ := by injection hv
 subst hA
 refine ⟨g, 0, rfl, hP g hb, hlt, fun i a hi => ?_⟩
 have hil : i < css.length := by have := (List.getElem?_eq_some_iff.1 hi).1; omega
 refine ⟨css[i], f i _ _ (List.getElem?_eq_getElem hil) hi, fun j u hu => ?_⟩
 have hj : j < R.size := by have h1 := (List.getElem?_eq_some_iff.1 hu).1; rwa [hlen _ (List.getElem_mem hil)] at h1
 have h1 := flatten_at hlen (List.getElem?_eq_getElem hil) hj
 rw [hu] at h1
 have := ho.cells (g := g) rfl _ u h1
 rw [add_off] at this
 rw [← Nat.add_assoc] at this
 exact this
theorem Rep.Row.flat (h : R.Row w P A l) : ∃ xs, R.flat w P xs l ∧ xs.length = l.length * R.size ∧ (0 < l.length → ∃ b o, A = some ⟨b, o, none⟩ ∧ P b ∧ b < w.heap.size ∧ ∀ j u, xs[j]? = some u → w.cell? ⟨b, o + j, none⟩ = some u) := by
 by_cases hl : 0 < l.length
 ·obtain ⟨b, o, rfl, hp, hb, hc⟩ := h hl
  have key : ∀ k, k ≤ l.length → ∃ css : List (List Value), css.length = k ∧ ∀ (i : Nat) (cs : List Value) (a : α), css[i]? = some cs → l[i]? = some a → R.rep w P cs a ∧ ∀ j u, cs[j]? = some u → w.cell? ⟨b, o + i * R.size + j, none⟩ = some u := by
   intro k
   induction k with
   | zero => intro _; exact ⟨[], rfl, by simp⟩
   | succ k ih =>
     intro hk
     obtain ⟨css, hn, f⟩ := ih (by omega)
     obtain ⟨cs, hr, hcs⟩ := hc k l[k] (List.getElem?_eq_getElem (by omega))
     refine ⟨css ++ [cs], by simp [hn], fun i cs' a h1 h2 => ?_⟩
     by_cases hi : i < k
     ·rw [List.getElem?_append_left (by omega)] at h1
      exact f i cs' a h1 h2
     ·rw [List.getElem?_append_right (by omega), hn] at h1
      have hik : i = k := by
       have := (List.getElem?_eq_some_iff.1 h1).1
       simp at this; omega
      subst hik
      simp at h1
      subst h1
      rw [List.getElem?_eq_getElem (by omega)] at h2
      cases h2
      exact ⟨hr, hcs⟩
  obtain ⟨css, hn, f⟩ := key l.length (Nat.le_refl _)
  have hf : R.flat w P css.flatten l := ⟨css, rfl, hn, fun i cs a h1 h2 => (f i cs a h1 h2).1⟩
  refine ⟨css.flatten, hf, hf.lens, fun _ => ⟨b, o, rfl, hp, hb, fun j u hu => ?_⟩⟩
  have hlen : ∀ cs ∈ css, cs.length = R.size := by
   intro cs hcs
   obtain ⟨i, hi, rfl⟩ := List.getElem_of_mem hcs
   exact R.len (f i _ _ (List.getElem?_eq_getElem hi) (List.getElem?_eq_getElem (by omega))).1
  have hjl := (List.getElem?_eq_some_iff.1 hu).1
  rw [flatten_len hlen] at hjl
  have hq : j / R.size < css.length := Nat.div_lt_of_lt_mul (by rw [Nat.mul_comm]; exact hjl)
  have hm : j % R.size < R.size := Nat.mod_lt _ R.pos
  have he : j / R.size * R.size + j % R.size = j := by rw [Nat.mul_comm]; exact Nat.div_add_mod _ _
  have h1 := flatten_at hlen (List.getElem?_eq_getElem hq) hm
  rw [he, hu] at h1
  have := (f _ _ _ (List.getElem?_eq_getElem hq) (List.getElem?_eq_getElem (show j / R.size < l.length by omega))).2 _ u h1.symm
  rw [Nat.add_assoc, he] at this
  exact this
 ·have : l = [] := List.eq_nil_of_length_eq_zero (by omega)
  subst this
  exact ⟨[], Rep.flat.nil_, by simp, fun h => absurd h (by simp)⟩
def IntR : Rep Int where
 size := 1
 rep _ _ cs n := cs = [.int .i64 n] ∧ -9223372036854775808 ≤ n ∧ n ≤ 9223372036854775807
 pos := by decide
 len h := by simp [h.1]
 one h := by simp [h.1, Value.oneCell']
 same h _ := h
 mono h _ := h
def StrR : Rep ByteArray where
 size := 1
 rep _ _ cs s := cs = [.string s] ∧ s.size ≤ 9223372036854775807
 pos := by decide
 len h := by simp [h.1]
 one h := by simp [h.1, Value.oneCell']
 same h _ := h
 mono h _ := h
def BoolR : Rep Bool where
 size := 1
 rep _ _ cs b := cs = [.bool b]
 pos := by decide
 len h := by simp [h]
 one h := by simp [h, Value.oneCell']
 same h _ := h
 mono h _ := h
def Rep.cat (R : Rep α) (S : Rep β) : Rep (α × β) where
 size := R.size + S.size
 rep w P cs p := ∃ c1 c2, cs = c1 ++ c2 ∧ R.rep w P c1 p.1 ∧ S.rep w P c2 p.2
 pos := Nat.add_pos_left R.pos _
 len := by rintro w P cs p ⟨c1, c2, rfl, h1, h2⟩; rw [List.length_append, R.len h1, S.len h2]
 one := by
  rintro w P cs p ⟨c1, c2, rfl, h1, h2⟩ u hu
  rcases List.mem_append.1 hu with h | h
  ·exact R.one h1 u h
  ·exact S.one h2 u h
 same := by rintro w w' P cs p ⟨c1, c2, rfl, h1, h2⟩ hs; exact ⟨c1, c2, rfl, R.same h1 hs, S.same h2 hs⟩
 mono := by rintro w P Q cs p ⟨c1, c2, rfl, h1, h2⟩ hs; exact ⟨c1, c2, rfl, R.mono h1 hs, S.mono h2 hs⟩
def Rep.via (R : Rep α) (f : β → α) : Rep β where
 size := R.size
 rep w P cs b := R.rep w P cs (f b)
 pos := R.pos
 len := R.len
 one := R.one
 same := R.same
 mono := R.mono
def Rep.sl (R : Rep α) : Rep (List α) where
 size := 1
 rep w P cs l := ∃ A c, cs = [.slice A l.length c] ∧ l.length ≤ c ∧ c ≤ 9223372036854775807 ∧ R.Row w P A l
 pos := by decide
 len := by rintro w P cs l ⟨A, c, rfl, _⟩; rfl
 one := by rintro w P cs l ⟨A, c, rfl, _⟩; simp [Value.oneCell']
 same := by
  rintro w w' P cs l ⟨A, c, rfl, h1, h2, h3⟩ hs
  refine ⟨A, c, rfl, h1, h2, fun hl => ?_⟩
  obtain ⟨b, o, e, hp, hb, hc⟩ := h3 hl
  refine ⟨b, o, e, hp, ?_, fun i a hi => ?_⟩
  ·have := hs b hp hb
   rw [Array.getElem?_eq_getElem hb] at this
   exact (Array.getElem?_eq_some_iff.1 this).1
  ·obtain ⟨cs, hr, hcs⟩ := hc i a hi
   exact ⟨cs, R.same hr hs, fun j u hu => (World.cell?_of_block (w := w) (hs b hp hb)).trans (hcs j u hu)⟩
 mono := by
  rintro w P Q cs l ⟨A, c, rfl, h1, h2, h3⟩ hs
  exact ⟨A, c, rfl, h1, h2, h3.mono hs⟩
end
end Go.Proofs.YtcmjgghkmdbphaaGreatDoor
namespace Go
theorem World.ownsRow.ext_ {w w' : World} {base e size n : Nat} {v : Value} {xs : List Value} (h : w.ownsRow base e size v n xs) (hb : RowKit.Below w.heap.size w w') : w'.ownsRow base e size v n xs := by
 refine ⟨h.1, ?_⟩
 rcases h.2 with hn | ⟨g, cap, cur, hv, hbg, hg, rest⟩
 ·exact .inl hn
 ·exact .inr ⟨g, cap, cur, hv, hbg, (hb.block g (Array.getElem?_eq_some_iff.1 hg).1).trans hg, rest⟩
theorem World.ownsRow.base_ {w : World} {base base' e size n : Nat} {v : Value} {xs : List Value} (h : w.ownsRow base e size v n xs) (hb : ∀ g, v.ownBlock = some g → base' ≤ g) : w.ownsRow base' e size v n xs := by
 refine ⟨h.1, ?_⟩
 rcases h.2 with hn | ⟨g, cap, cur, hv, hbg, hg, rest⟩
 ·exact .inl hn
 ·exact .inr ⟨g, cap, cur, hv, hb g (by rw [hv]; rfl), hg, rest⟩
end Go
namespace Go.Proofs.YtcmjgghkmdbphaaGreatDoor
open Go.RowKit
theorem own_form {w : World} {base e size n : Nat} {v : Value} {xs : List Value} (h : w.ownsRow base e size v n xs) : ∃ A c, v = .slice A n c := by
 rcases h.2 with ⟨rfl, rfl⟩ | ⟨g, cap, cur, rfl, _⟩
 ·exact ⟨_, _, rfl⟩
 ·exact ⟨_, _, rfl⟩
theorem own_cap {w : World} {base e size n c : Nat} {A : Option Addr} {xs : List Value} (h : w.ownsRow base e size (.slice A n c) n xs) : n ≤ c ∧ c ≤ 9223372036854775807 := by
 rcases h.2 with ⟨hv, h0⟩ | ⟨g, cap, cur, hv, _, _, hc, hm, _⟩
 ·injection hv with _ _ h3; omega
 ·injection hv with _ _ h3; unfold maxLen at hm; omega
section
variable {α : Type} {R : Rep α} {w w' : World} {base e : Nat} {S : Nat → Prop} {v : Value} {l m : List α}
def Rep.Own (R : Rep α) (w : World) (base e : Nat) (S : Nat → Prop) (v : Value) (l : List α) : Prop :=
 ∃ xs, w.ownsRow base e R.size v l.length xs ∧ R.flat w (fun g => S g ∧ some g ≠ v.ownBlock) xs l
theorem Rep.Own.nil_ : R.Own w base e S (.slice none 0 0) [] := ⟨[], World.ownsRow_nil _ _ _ _, Rep.flat.nil_⟩
theorem Rep.Own.form (h : R.Own w base e S v l) : ∃ A c, v = .slice A l.length c ∧ l.length ≤ c ∧ c ≤ 9223372036854775807 := by
 obtain ⟨xs, h1, _⟩ := h
 obtain ⟨A, c, rfl⟩ := own_form h1
 exact ⟨A, c, rfl, own_cap h1⟩
theorem Rep.Own.lt (h : R.Own w base e S v l) : ∀ k, v.ownBlock = some k → base ≤ k ∧ k < w.heap.size := by
 obtain ⟨xs, h1, _⟩ := h
 exact h1.lt
theorem Rep.Own.mono {S' : Nat → Prop} (h : R.Own w base e S v l) (hs : ∀ g, S g → g < w.heap.size → S' g) : R.Own w base e S' v l := by
 obtain ⟨xs, h1, h2⟩ := h
 exact ⟨xs, h1, h2.mono fun g hg hl => ⟨hs g hg.1 hl, hg.2⟩⟩
theorem Rep.Own.ext (h : R.Own w base e S v l) (hb : Below w.heap.size w w') : R.Own w' base e S v l := by
 obtain ⟨xs, h1, h2⟩ := h
 exact ⟨xs, h1.ext_ hb, h2.same (Same.of_below hb)⟩
theorem Rep.Own.alloc (h : R.Own w base e S v l) (o : Obj) : R.Own (w.alloc o) base e S v l := h.ext ((Below.refl _ _).al o)
theorem Rep.Own.only {F : Nat → Prop} (h : R.Own w base e S v l) (hb : Only F w w') (h1 : ∀ g, S g → ¬ F g) (h2 : ∀ g, v.ownBlock = some g → ¬ F g) : R.Own w' base e S v l := by
 obtain ⟨xs, k1, k2⟩ := h
 refine ⟨xs, ⟨k1.1, ?_⟩, k2.same (Same.of_only hb fun g hg => h1 g hg.1)⟩
 rcases k1.2 with hn | ⟨g, cap, cur, hv, hbg, hg, rest⟩
 ·exact .inl hn
 ·exact .inr ⟨g, cap, cur, hv, hbg, (hb.block g (Array.getElem?_eq_some_iff.1 hg).1 (h2 g (by rw [hv]; rfl))).trans hg, rest⟩
theorem Rep.Own.row {A : Option Addr} {n c : Nat} (h : R.Own w base e S (.slice A n c) l) (hS : ∀ g, base ≤ g → S g) : R.Row w S A l := by
 obtain ⟨xs, h1, h2⟩ := h
 obtain ⟨A', c', he, _⟩ := Rep.Own.form ⟨xs, h1, h2⟩
 injection he with e1 e2 e3
 subst e1 e2 e3
 exact (h2.mono (fun g hg _ => hg.1)).row h1 hS
theorem Rep.Own.sl (h : R.Own w base e S v l) (hS : ∀ g, base ≤ g → S g) : R.sl.rep w S [v] l := by
 obtain ⟨A, c, rfl, h1, h2⟩ := h.form
 exact ⟨A, c, rfl, h1, h2, h.row hS⟩
theorem Rep.Row.new1 {cs : List Value} {a : α} {P : Nat → Prop} {t : TypeId} (h : R.rep w P cs a) : R.Row (w.alloc (.cells cs.toArray t)) (fun g => P g ∨ g = w.heap.size) (some ⟨w.heap.size, 0, none⟩) [a] := fun _ => by
 refine ⟨w.heap.size, 0, rfl, .inr rfl, by simp, fun i b hi => ?_⟩
 cases i with
 | succ i => simp at hi
 | zero =>
   simp at hi; subst hi
   refine ⟨cs, R.mono (R.same h (Same.of_below ((Below.refl _ _).al _))) (fun g hg _ => .inl hg), fun j u hu => ?_⟩
   rw [(Blk.new w t cs).cell]
   simpa using hu
end
section
variable {P : Program} (w : World)
theorem run_append_of_nil (base : Nat) (t ty e : TypeId) (i : TypeInfo) (size : Nat) (ht : P.underlying t = some (.slice e)) (hi : P.info? e = some i)
 (v : Value) (n : Nat) (xs : List Value) (hown : w.ownsRow base e size v n xs) (c : Nat) : (Builtin.append_ #[t, t] ty #[v, .slice none 0 c]).run P w = .ok v w := by
 rcases hown.2 with ⟨rfl, rfl⟩ | ⟨g, cap, cur, rfl, _, _, hnc, _⟩
 ·simp [Builtin.append_, run_underlying ht, sizeOf, typeInfo, hi, Builtin.lenOf, Builtin.firstCells]
 ·simp [Builtin.append_, run_underlying ht, sizeOf, typeInfo, hi, Builtin.lenOf, Builtin.firstCells, hnc, storeCells]
theorem run_append_of_0 (base : Nat) (t ty e : TypeId) (i : TypeInfo) (size : Nat) (ht : P.underlying t = some (.slice e)) (hi : P.info? e = some i)
 (v : Value) (n : Nat) (xs : List Value) (hown : w.ownsRow base e size v n xs) (A : Option Addr) (c : Nat) : (Builtin.append_ #[t, t] ty #[v, .slice A 0 c]).run P w = .ok v w := by
 rcases A with _ | ad
 ·exact run_append_of_nil w base t ty e i size ht hi v n xs hown c
 rcases hown.2 with ⟨rfl, rfl⟩ | ⟨g, cap, cur, rfl, _, _, hnc, _⟩
 ·simp [Builtin.append_, run_underlying ht, sizeOf, typeInfo, hi, Builtin.lenOf, Builtin.firstCells, loadCells, loadCellsFrom]
 ·simp [Builtin.append_, run_underlying ht, sizeOf, typeInfo, hi, Builtin.lenOf, Builtin.firstCells, hnc, storeCells, loadCells, loadCellsFrom]
theorem run_append_rep {α : Type} {R : Rep α} (base : Nat) (t ty e : TypeId) (i : TypeInfo) (z : Value) (bytes : Nat) (ht : P.underlying t = some (.slice e)) (hi : P.info? e = some i) (hz : i.zero = some z)
 (hsize : i.size = R.size) (hby : i.bytes = bytes) (hzs : z.cells.size = R.size)
 (v : Value) (l : List α) (S : Nat → Prop) (hown : R.Own w base e S v l)
 (Q : Nat → Prop) (A : Option Addr) (c : Nat) (m : List α) (hr : R.Row w Q A m) (hQ : ∀ g, Q g → g < w.heap.size → S g ∧ some g ≠ v.ownBlock)
 (h63 : l.length + m.length ≤ maxLen) (hbytes : (l.length + m.length) * bytes ≤ 140737488355328) (hbase : base ≤ w.heap.size) :
 ∃ v' w', (Builtin.append_ #[t, t] ty #[v, .slice A m.length c]).run P w = .ok v' w' ∧ R.Own w' base e S v' (l ++ m) ∧ w.grownBy w' v.ownBlock ∧
   (v'.ownBlock = v.ownBlock ∨ v'.ownBlock = some w.heap.size) ∧ (v' = .slice none 0 0 ↔ v = .slice none 0 0 ∧ m = []) := by
 obtain ⟨xs, h1, h2⟩ := hown
 rcases Nat.eq_zero_or_pos m.length with h0 | h0
 ·have hm : m = [] := List.eq_nil_of_length_eq_zero h0
  subst hm
  exact ⟨v, w, run_append_of_0 w base t ty e i R.size ht hi v _ xs h1 A c, by simpa using ⟨xs, h1, h2⟩, World.grownBy.refl w _, .inl rfl, by simp⟩
 ·obtain ⟨ys, hf, hl, hc⟩ := hr.flat
  obtain ⟨b, o, rfl, hb, hbl, hcell⟩ := hc h0
  obtain ⟨v', w', hrun, ho, hg, hn, hat⟩ := run_append_own_at (P := P) w base t ty e i z R.size bytes ht hi hz hsize hby hzs R.pos v _ xs h1 ⟨b, o, none⟩ m.length c ys hl (fun j u hu => by rw [add_off]; exact hcell j u hu) hf.ones h63 hbytes hbase
  refine ⟨v', w', hrun, ⟨xs ++ ys, by rw [List.length_append]; exact ho, ?_⟩, hg, hat, ?_⟩
  ·have hs : Same (fun g => S g ∧ some g ≠ v.ownBlock) w w' := fun g hg' hl => hg.block g hl hg'.2
   have k2 := h2.app (hf.mono hQ)
   have k3 : R.flat w (fun g => (S g ∧ some g ≠ v.ownBlock) ∧ some g ≠ v'.ownBlock) (xs ++ ys) (l ++ m) := k2.mono fun g hg' hl => ⟨hg', by
    rcases hat with h | h
    ·rw [h]; exact hg'.2
    ·rw [h]; intro h; injection h with h; omega⟩
   exact (k3.same (fun g hg' hl => hs g hg'.1 hl)).mono fun g hg' _ => ⟨hg'.1.1, hg'.2⟩
  ·rw [hn]
   constructor
   ·rintro ⟨_, h⟩; omega
   ·rintro ⟨_, h⟩; rw [h] at h0; simp at h0
theorem wp_append_rep {α : Type} {R : Rep α} {o : Oper} {a : Act} {K : Act → World → Prop} {Q' : Exit → Act → World → Prop} (s x : Operand) (t : TypeId)
 (ho : o.op = .call { callee := .builtin .append, args := #[s, x], argTypes := #[t, t] })
 (base : Nat) (e : TypeId) (i : TypeInfo) (z : Value) (bytes : Nat) (ht : P.underlying t = some (.slice e)) (hi : P.info? e = some i) (hz : i.zero = some z)
 (hsize : i.size = R.size) (hby : i.bytes = bytes) (hzs : z.cells.size = R.size)
 (v : Value) (l : List α) (S : Nat → Prop) (hs : a.eval s = v) (hown : R.Own w base e S v l)
 (Q : Nat → Prop) (A : Option Addr) (c : Nat) (m : List α) (hx : a.eval x = .slice A m.length c) (hr : R.Row w Q A m) (hQ : ∀ g, Q g → g < w.heap.size → S g ∧ some g ≠ v.ownBlock)
 (h63 : l.length + m.length ≤ maxLen) (hbytes : (l.length + m.length) * bytes ≤ 140737488355328) (hbase : base ≤ w.heap.size)
 (h : ∀ v' w', R.Own w' base e S v' (l ++ m) → w.grownBy w' v.ownBlock → (v'.ownBlock = v.ownBlock ∨ v'.ownBlock = some w.heap.size) → (v' = .slice none 0 0 ↔ v = .slice none 0 0 ∧ m = []) → K (a.put o.dst v') w') : o.wp P a w K Q' := by
 obtain ⟨v', w', hrun, h2, h3, h4, h5⟩ := run_append_rep (P := P) w base t o.type e i z bytes ht hi hz hsize hby hzs v l S hown Q A c m hr hQ h63 hbytes hbase
 unfold Oper.wp execOp
 simp only [ho, resolve, invoke, builtin, Sem.run_bind, Sem.run_pure, Result.andThen_ok, List.map_toArray, List.map_cons, List.map_nil, hs, hx, hrun]
 exact h v' w' h2 h3 h4 h5
theorem wpList_append_rep {α : Type} {R : Rep α} {ops : Array Oper} {rest : List Oper} {o : Oper} {a : Act} {Q' : Exit → Act → World → Prop} (hgd : o.guard = none) (s x : Operand) (t : TypeId)
 (ho : o.op = .call { callee := .builtin .append, args := #[s, x], argTypes := #[t, t] })
 (base : Nat) (e : TypeId) (i : TypeInfo) (z : Value) (bytes : Nat) (ht : P.underlying t = some (.slice e)) (hi : P.info? e = some i) (hz : i.zero = some z)
 (hsize : i.size = R.size) (hby : i.bytes = bytes) (hzs : z.cells.size = R.size)
 (v : Value) (l : List α) (S : Nat → Prop) (hs : a.eval s = v) (hown : R.Own w base e S v l)
 (Q : Nat → Prop) (A : Option Addr) (c : Nat) (m : List α) (hx : a.eval x = .slice A m.length c) (hr : R.Row w Q A m) (hQ : ∀ g, Q g → g < w.heap.size → S g ∧ some g ≠ v.ownBlock)
 (h63 : l.length + m.length ≤ maxLen) (hbytes : (l.length + m.length) * bytes ≤ 140737488355328) (hbase : base ≤ w.heap.size)
 (h : ∀ v' w', R.Own w' base e S v' (l ++ m) → w.grownBy w' v.ownBlock → (v'.ownBlock = v.ownBlock ∨ v'.ownBlock = some w.heap.size) → (v' = .slice none 0 0 ↔ v = .slice none 0 0 ∧ m = []) → Below base w w' → wpList P ops Q' rest (a.put o.dst v') w') : wpList P ops Q' (o :: rest) a w :=
 wpList_plain hgd fun _ hK => wp_append_rep w s x t ho base e i z bytes ht hi hz hsize hby hzs v l S hs hown Q A c m hx hr hQ h63 hbytes hbase fun v' w' h2 h3 h4 h5 => hK _ _ (h v' w' h2 h3 h4 h5 ((Below.refl base w).grown h3 hbase fun k hk => (hown.lt k hk).1))
theorem wpList_append_new {α : Type} {R : Rep α} {ops : Array Oper} {rest : List Oper} {o : Oper} {a : Act} {Q' : Exit → Act → World → Prop} {te : TypeId} {cs : List Value} (hgd : o.guard = none) (s x : Operand) (t : TypeId)
 (ho : o.op = .call { callee := .builtin .append, args := #[s, x], argTypes := #[t, t] })
 (base : Nat) (e : TypeId) (i : TypeInfo) (z : Value) (bytes : Nat) (ht : P.underlying t = some (.slice e)) (hi : P.info? e = some i) (hz : i.zero = some z)
 (hsize : i.size = R.size) (hby : i.bytes = bytes) (hzs : z.cells.size = R.size)
 (v : Value) (l : List α) (S : Nat → Prop) (hs : a.eval s = v) (hown : R.Own w base e S v l) (hS : ∀ g, base ≤ g → S g)
 (hx : a.eval x = .slice (some ⟨w.heap.size, 0, none⟩) 1 1) (P' : Nat → Prop) (d : α) (hr : R.rep w P' cs d) (hP : ∀ g, P' g → g < w.heap.size → S g ∧ some g ≠ v.ownBlock)
 (h63 : l.length + 1 ≤ maxLen) (hbytes : (l.length + 1) * bytes ≤ 140737488355328) (hbase : base ≤ w.heap.size)
 (h : ∀ v' w', R.Own w' base e S v' (l ++ [d]) → w.grownBy w' v.ownBlock → (v'.ownBlock = v.ownBlock ∨ v'.ownBlock = some (w.heap.size + 1)) → v' ≠ .slice none 0 0 → Below base w w' → wpList P ops Q' rest (a.put o.dst v') w') : wpList P ops Q' (o :: rest) a (w.alloc (.cells cs.toArray te)) := by
 have hr1 : R.Row (w.alloc (.cells cs.toArray te)) (fun g => (P' g ∧ g < w.heap.size) ∨ g = w.heap.size) (some ⟨w.heap.size, 0, none⟩) [d] := Rep.Row.new1 (R.mono hr fun g hg hl => ⟨hg, hl⟩)
 refine wpList_append_rep (w.alloc (.cells cs.toArray te)) hgd s x t ho base e i z bytes ht hi hz hsize hby hzs v l S hs (hown.alloc _) _ _ 1 [d] hx hr1 ?_ h63 hbytes (by simp; omega) ?_
 ·intro g hg hl
  rcases hg with ⟨hg, hl'⟩ | rfl
  ·exact hP g hg hl'
  ·exact ⟨hS _ hbase, fun h => by have := (hown.lt _ h.symm).2; omega⟩
 ·intro v' w' h1 h2 h3 h4 h5
  refine h v' w' h1 ((World.grownBy_alloc w _ _).trans h2) (by simpa using h3) (fun e => by have := (h4.1 e).2; cases this) (((Below.refl base w).alloc hbase _).trans h5)
end
end Go.Proofs.YtcmjgghkmdbphaaGreatDoor
namespace Go.Proofs.YtcmjgghkmdbphaaGreatDoor
open Go.RowKit
abbrev Str := ByteArray
structure Stamp where
 wall : Int
 logic : Int
 node : Int
 deriving DecidableEq
structure Tx where
 node : Int
 life : Int
 num : Int
 deriving DecidableEq
structure Range where
 first : Int
 last : Int
 owner : Int
 epoch : Int
 deriving DecidableEq
structure Put where
 stream : Str
 expect : Int
 data : List Str
structure Batch where
 key : Str
 puts : List Put
structure Event where
 stream : Str
 version : Int
 data : Str
 stamp : Stamp
 index : Int
structure Known where
 key : Str
 first : Int
 stamp : Stamp
structure Stream where
 name : Str
 events : List Event
 keys : List Known
structure Rec where
 kind : Int
 n : Int
 «to» : Int
 yes : Bool
 stamp : Stamp
 tx : Tx
 nodes : List Int
 batch : Batch
 range : Range
 streams : List Stream
def StampR : Rep Stamp := (IntR.cat (IntR.cat IntR)).via fun s => (s.wall, s.logic, s.node)
def TxR : Rep Tx := (IntR.cat (IntR.cat IntR)).via fun s => (s.node, s.life, s.num)
def RangeR : Rep Range := (IntR.cat (IntR.cat (IntR.cat IntR))).via fun s => (s.first, s.last, s.owner, s.epoch)
def PutR : Rep Put := (StrR.cat (IntR.cat StrR.sl)).via fun p => (p.stream, p.expect, p.data)
def BatchR : Rep Batch := (StrR.cat PutR.sl).via fun b => (b.key, b.puts)
def EventR : Rep Event := (StrR.cat (IntR.cat (StrR.cat (StampR.cat IntR)))).via fun e => (e.stream, e.version, e.data, e.stamp, e.index)
def KnownR : Rep Known := (StrR.cat (IntR.cat StampR)).via fun k => (k.key, k.first, k.stamp)
def StreamR : Rep Stream := (StrR.cat (EventR.sl.cat KnownR.sl)).via fun s => (s.name, s.events, s.keys)
def RecR : Rep Rec := (IntR.cat (IntR.cat (IntR.cat (BoolR.cat (StampR.cat (TxR.cat (IntR.sl.cat (BatchR.cat (RangeR.cat StreamR.sl))))))))).via
 fun r => (r.kind, r.n, r.to, r.yes, r.stamp, r.tx, r.nodes, r.batch, r.range, r.streams)
def i64 (n : Int) : Prop := -9223372036854775808 ≤ n ∧ n ≤ 9223372036854775807
def Stamp.cells (s : Stamp) : List Value := [.int .i64 s.wall, .int .i64 s.logic, .int .i64 s.node]
def Stamp.fit (s : Stamp) : Prop := i64 s.wall ∧ i64 s.logic ∧ i64 s.node
def Tx.cells (s : Tx) : List Value := [.int .i64 s.node, .int .i64 s.life, .int .i64 s.num]
def Tx.fit (s : Tx) : Prop := i64 s.node ∧ i64 s.life ∧ i64 s.num
def Range.cells (s : Range) : List Value := [.int .i64 s.first, .int .i64 s.last, .int .i64 s.owner, .int .i64 s.epoch]
def Range.fit (s : Range) : Prop := i64 s.first ∧ i64 s.last ∧ i64 s.owner ∧ i64 s.epoch
def sfit (s : Str) : Prop := s.size ≤ 9223372036854775807
def Event.cells (e : Event) : List Value := [.string e.stream, .int .i64 e.version, .string e.data, .int .i64 e.stamp.wall, .int .i64 e.stamp.logic, .int .i64 e.stamp.node, .int .i64 e.index]
def Event.fit (e : Event) : Prop := sfit e.stream ∧ i64 e.version ∧ sfit e.data ∧ e.stamp.fit ∧ i64 e.index
def Known.cells (k : Known) : List Value := [.string k.key, .int .i64 k.first, .int .i64 k.stamp.wall, .int .i64 k.stamp.logic, .int .i64 k.stamp.node]
def Known.fit (k : Known) : Prop := sfit k.key ∧ i64 k.first ∧ k.stamp.fit
section
variable {w : World} {P : Nat → Prop} {cs : List Value}
theorem stamp_rep {s : Stamp} : StampR.rep w P cs s ↔ cs = s.cells ∧ s.fit := by
 constructor
 ·rintro ⟨c1, c2, rfl, ⟨rfl, h1⟩, c3, c4, rfl, ⟨rfl, h2⟩, ⟨rfl, h3⟩⟩
  exact ⟨rfl, h1, h2, h3⟩
 ·rintro ⟨rfl, h1, h2, h3⟩
  exact ⟨[_], _, rfl, ⟨rfl, h1⟩, [_], _, rfl, ⟨rfl, h2⟩, ⟨rfl, h3⟩⟩
theorem tx_rep {s : Tx} : TxR.rep w P cs s ↔ cs = s.cells ∧ s.fit := by
 constructor
 ·rintro ⟨c1, c2, rfl, ⟨rfl, h1⟩, c3, c4, rfl, ⟨rfl, h2⟩, ⟨rfl, h3⟩⟩
  exact ⟨rfl, h1, h2, h3⟩
 ·rintro ⟨rfl, h1, h2, h3⟩
  exact ⟨[_], _, rfl, ⟨rfl, h1⟩, [_], _, rfl, ⟨rfl, h2⟩, ⟨rfl, h3⟩⟩
theorem range_rep {s : Range} : RangeR.rep w P cs s ↔ cs = s.cells ∧ s.fit := by
 constructor
 ·rintro ⟨c1, c2, rfl, ⟨rfl, h1⟩, c3, c4, rfl, ⟨rfl, h2⟩, c5, c6, rfl, ⟨rfl, h3⟩, ⟨rfl, h4⟩⟩
  exact ⟨rfl, h1, h2, h3, h4⟩
 ·rintro ⟨rfl, h1, h2, h3, h4⟩
  exact ⟨[_], _, rfl, ⟨rfl, h1⟩, [_], _, rfl, ⟨rfl, h2⟩, [_], _, rfl, ⟨rfl, h3⟩, ⟨rfl, h4⟩⟩
theorem event_rep {e : Event} : EventR.rep w P cs e ↔ cs = e.cells ∧ e.fit := by
 constructor
 ·rintro ⟨c1, c2, rfl, ⟨rfl, h1⟩, c3, c4, rfl, ⟨rfl, h2⟩, c5, c6, rfl, ⟨rfl, h3⟩, c7, c8, rfl, hs, ⟨rfl, h5⟩⟩
  obtain ⟨rfl, h4⟩ := stamp_rep.1 hs
  exact ⟨rfl, h1, h2, h3, h4, h5⟩
 ·rintro ⟨rfl, h1, h2, h3, h4, h5⟩
  exact ⟨[_], _, rfl, ⟨rfl, h1⟩, [_], _, rfl, ⟨rfl, h2⟩, [_], _, rfl, ⟨rfl, h3⟩, _, [_], rfl, stamp_rep.2 ⟨rfl, h4⟩, ⟨rfl, h5⟩⟩
theorem known_rep {k : Known} : KnownR.rep w P cs k ↔ cs = k.cells ∧ k.fit := by
 constructor
 ·rintro ⟨c1, c2, rfl, ⟨rfl, h1⟩, c3, c4, rfl, ⟨rfl, h2⟩, hs⟩
  obtain ⟨rfl, h4⟩ := stamp_rep.1 hs
  exact ⟨rfl, h1, h2, h4⟩
 ·rintro ⟨rfl, h1, h2, h4⟩
  exact ⟨[_], _, rfl, ⟨rfl, h1⟩, [_], _, rfl, ⟨rfl, h2⟩, stamp_rep.2 ⟨rfl, h4⟩⟩
theorem put_rep {p : Put} : PutR.rep w P cs p ↔ ∃ A c, cs = [.string p.stream, .int .i64 p.expect, .slice A p.data.length c] ∧ sfit p.stream ∧ i64 p.expect ∧ p.data.length ≤ c ∧ c ≤ 9223372036854775807 ∧ StrR.Row w P A p.data := by
 constructor
 ·rintro ⟨c1, c2, rfl, ⟨rfl, h1⟩, c3, c4, rfl, ⟨rfl, h2⟩, A, c, rfl, h3, h4, h5⟩
  exact ⟨A, c, rfl, h1, h2, h3, h4, h5⟩
 ·rintro ⟨A, c, rfl, h1, h2, h3, h4, h5⟩
  exact ⟨[_], _, rfl, ⟨rfl, h1⟩, [_], _, rfl, ⟨rfl, h2⟩, A, c, rfl, h3, h4, h5⟩
theorem batch_rep {b : Batch} : BatchR.rep w P cs b ↔ ∃ A c, cs = [.string b.key, .slice A b.puts.length c] ∧ sfit b.key ∧ b.puts.length ≤ c ∧ c ≤ 9223372036854775807 ∧ PutR.Row w P A b.puts := by
 constructor
 ·rintro ⟨c1, c2, rfl, ⟨rfl, h1⟩, A, c, rfl, h3, h4, h5⟩
  exact ⟨A, c, rfl, h1, h3, h4, h5⟩
 ·rintro ⟨A, c, rfl, h1, h3, h4, h5⟩
  exact ⟨[_], _, rfl, ⟨rfl, h1⟩, A, c, rfl, h3, h4, h5⟩
theorem stream_rep {s : Stream} : StreamR.rep w P cs s ↔ ∃ A c A' c', cs = [.string s.name, .slice A s.events.length c, .slice A' s.keys.length c'] ∧ sfit s.name ∧ s.events.length ≤ c ∧ c ≤ 9223372036854775807 ∧ EventR.Row w P A s.events ∧
 s.keys.length ≤ c' ∧ c' ≤ 9223372036854775807 ∧ KnownR.Row w P A' s.keys := by
 constructor
 ·rintro ⟨c1, c2, rfl, ⟨rfl, h1⟩, c3, c4, rfl, ⟨A, c, rfl, h2, h3, h4⟩, ⟨A', c', rfl, h5, h6, h7⟩⟩
  exact ⟨A, c, A', c', rfl, h1, h2, h3, h4, h5, h6, h7⟩
 ·rintro ⟨A, c, A', c', rfl, h1, h2, h3, h4, h5, h6, h7⟩
  exact ⟨[_], _, rfl, ⟨rfl, h1⟩, [_], [_], rfl, ⟨A, c, rfl, h2, h3, h4⟩, ⟨A', c', rfl, h5, h6, h7⟩⟩
def Rec.cells (r : Rec) (nA : Option Addr) (nc : Nat) (pA : Option Addr) (pc : Nat) (sA : Option Addr) (sc : Nat) : List Value :=
 [.int .i64 r.kind, .int .i64 r.n, .int .i64 r.to, .bool r.yes, .int .i64 r.stamp.wall, .int .i64 r.stamp.logic, .int .i64 r.stamp.node, .int .i64 r.tx.node, .int .i64 r.tx.life, .int .i64 r.tx.num,
  .slice nA r.nodes.length nc, .string r.batch.key, .slice pA r.batch.puts.length pc, .int .i64 r.range.first, .int .i64 r.range.last, .int .i64 r.range.owner, .int .i64 r.range.epoch, .slice sA r.streams.length sc]
structure RecAt (w : World) (P : Nat → Prop) (r : Rec) (nA : Option Addr) (nc : Nat) (pA : Option Addr) (pc : Nat) (sA : Option Addr) (sc : Nat) : Prop where
 kind : i64 r.kind
 n : i64 r.n
 «to» : i64 r.to
 stamp : r.stamp.fit
 tx : r.tx.fit
 nodes : r.nodes.length ≤ nc ∧ nc ≤ 9223372036854775807 ∧ IntR.Row w P nA r.nodes
 key : sfit r.batch.key
 puts : r.batch.puts.length ≤ pc ∧ pc ≤ 9223372036854775807 ∧ PutR.Row w P pA r.batch.puts
 range : r.range.fit
 streams : r.streams.length ≤ sc ∧ sc ≤ 9223372036854775807 ∧ StreamR.Row w P sA r.streams
theorem rec_rep {r : Rec} : RecR.rep w P cs r ↔ ∃ nA nc pA pc sA sc, cs = r.cells nA nc pA pc sA sc ∧ RecAt w P r nA nc pA pc sA sc := by
 constructor
 ·rintro ⟨c1, c2, rfl, ⟨rfl, h1⟩, c3, c4, rfl, ⟨rfl, h2⟩, c5, c6, rfl, ⟨rfl, h3⟩, c7, c8, rfl, rfl, c9, c10, rfl, hst, c11, c12, rfl, htx, c13, c14, rfl, ⟨nA, nc, rfl, n1, n2, n3⟩, c15, c16, rfl, hb, c17, c18, rfl, hr, ⟨sA, sc, rfl, s1, s2, s3⟩⟩
  obtain ⟨rfl, h4⟩ := stamp_rep.1 hst
  obtain ⟨rfl, h5⟩ := tx_rep.1 htx
  obtain ⟨rfl, h6⟩ := range_rep.1 hr
  obtain ⟨pA, pc, rfl, b1, b2, b3, b4⟩ := batch_rep.1 hb
  exact ⟨nA, nc, pA, pc, sA, sc, rfl, ⟨h1, h2, h3, h4, h5, ⟨n1, n2, n3⟩, b1, ⟨b2, b3, b4⟩, h6, ⟨s1, s2, s3⟩⟩⟩
 ·rintro ⟨nA, nc, pA, pc, sA, sc, rfl, h⟩
  exact ⟨[_], _, rfl, ⟨rfl, h.kind⟩, [_], _, rfl, ⟨rfl, h.n⟩, [_], _, rfl, ⟨rfl, h.to⟩, [_], _, rfl, rfl, _, _, rfl, stamp_rep.2 ⟨rfl, h.stamp⟩, _, _, rfl, tx_rep.2 ⟨rfl, h.tx⟩, [_], _, rfl, ⟨nA, nc, rfl, h.nodes.1, h.nodes.2.1, h.nodes.2.2⟩,
   _, _, rfl, batch_rep.2 ⟨pA, pc, rfl, h.key, h.puts.1, h.puts.2.1, h.puts.2.2⟩, _, [_], rfl, range_rep.2 ⟨rfl, h.range⟩, ⟨sA, sc, rfl, h.streams.1, h.streams.2.1, h.streams.2.2⟩⟩
end
end Go.Proofs.YtcmjgghkmdbphaaGreatDoor
namespace Go.Proofs.YtcmjgghkmdbphaaGreatDoor
open Go.RowKit
theorem recCells {W : World} {b t : Nat} {r : Rec} {nA pA sA : Option Addr} {nc pc sc : Nat} (C : Blk W b t (r.cells nA nc pA pc sA sc)) : W.cell? ⟨b, 0, none⟩ = some (.int .i64 r.kind) ∧ W.cell? ⟨b, 1, none⟩ = some (.int .i64 r.n) ∧ W.cell? ⟨b, 2, none⟩ = some (.int .i64 r.to) ∧ W.cell? ⟨b, 3, none⟩ = some (.bool r.yes) ∧ W.cell? ⟨b, 4, none⟩ = some (.int .i64 r.stamp.wall) ∧ W.cell? ⟨b, 5, none⟩ = some (.int .i64 r.stamp.logic) ∧ W.cell? ⟨b, 6, none⟩ = some (.int .i64 r.stamp.node) ∧ W.cell? ⟨b, 7, none⟩ = some (.int .i64 r.tx.node) ∧ W.cell? ⟨b, 8, none⟩ = some (.int .i64 r.tx.life) ∧ W.cell? ⟨b, 9, none⟩ = some (.int .i64 r.tx.num) ∧ W.cell? ⟨b, 10, none⟩ = some (.slice nA r.nodes.length nc) ∧ W.cell? ⟨b, 11, none⟩ = some (.string r.batch.key) ∧ W.cell? ⟨b, 12, none⟩ = some (.slice pA r.batch.puts.length pc) ∧ W.cell? ⟨b, 13, none⟩ = some (.int .i64 r.range.first) ∧ W.cell? ⟨b, 14, none⟩ = some (.int .i64 r.range.last) ∧ W.cell? ⟨b, 15, none⟩ = some (.int .i64 r.range.owner) ∧ W.cell? ⟨b, 16, none⟩ = some (.int .i64 r.range.epoch) ∧ W.cell? ⟨b, 17, none⟩ = some (.slice sA r.streams.length sc) := ⟨C.cell 0, C.cell 1, C.cell 2, C.cell 3, C.cell 4, C.cell 5, C.cell 6, C.cell 7, C.cell 8, C.cell 9, C.cell 10, C.cell 11, C.cell 12, C.cell 13, C.cell 14, C.cell 15, C.cell 16, C.cell 17⟩
theorem nineB {W : World} {b t : Nat} (a0 a1 a2 a3 a4 a5 a6 a7 a8 : Bool) (C : Blk W b t [.bool a0, .bool a1, .bool a2, .bool a3, .bool a4, .bool a5, .bool a6, .bool a7, .bool a8]) : W.cell? ⟨b, 0, none⟩ = some (.bool a0) ∧ W.cell? ⟨b, 1, none⟩ = some (.bool a1) ∧ W.cell? ⟨b, 2, none⟩ = some (.bool a2) ∧ W.cell? ⟨b, 3, none⟩ = some (.bool a3) ∧ W.cell? ⟨b, 4, none⟩ = some (.bool a4) ∧ W.cell? ⟨b, 5, none⟩ = some (.bool a5) ∧ W.cell? ⟨b, 6, none⟩ = some (.bool a6) ∧ W.cell? ⟨b, 7, none⟩ = some (.bool a7) ∧ W.cell? ⟨b, 8, none⟩ = some (.bool a8) := ⟨C.cell 0, C.cell 1, C.cell 2, C.cell 3, C.cell 4, C.cell 5, C.cell 6, C.cell 7, C.cell 8⟩
theorem j1 {α β : Type} {f : α → Option β} {a : α} {l : List α} : List.filterMap f (a :: l) = match f a with | none => l.filterMap f | some b => b :: l.filterMap f := List.filterMap_cons
theorem j2 {α β : Type} {f : α → Option β} : List.filterMap f [] = [] := List.filterMap_nil
theorem j3 {α : Type} {a : α} {l : List α} : (a :: l)[0]? = some a := List.getElem?_cons_zero
theorem j4 {α : Type} {a : α} {l : List α} {i : Nat} : (a :: l)[i + 1]? = l[i]? := List.getElem?_cons_succ
theorem qn {P : Program} {ops : Array Oper} {C : World → Prop} {K : Act → Prop} {a : Act} (h : K a) : wpQuiet P ops C K [] a := wpQuiet_nil h
theorem jh {p : Prop} (h : p) : Hid p := Lib.hid h
theorem ja {a b : Prop} (h : a) (k : b) : a ∧ b := ⟨h, k⟩
theorem jb (B : Nat) (w : World) : Below B w w := Below.refl B w
theorem jo {F : Nat → Prop} {w w' : World} (h : Below w.heap.size w w') : Only F w w' := Only.of_below h
theorem js {P : Nat → Prop} {w w' : World} (h : Below w.heap.size w w') : Same P w w' := Same.of_below h
theorem jg {α : Type} {l : List α} {i : Nat} (h : i < l.length) : l[i]? = some l[i] := List.getElem?_eq_getElem h
theorem jd {p : Prop} [Decidable p] (h : ¬ p) : decide p = false := decide_eq_false h
theorem jn {α : Type} [BEq α] [LawfulBEq α] {a b : α} (h : a ≠ b) : (a == b) = false := beq_eq_false_iff_ne.2 h
end Go.Proofs.YtcmjgghkmdbphaaGreatDoor
namespace Go.Proofs.YtcmjgghkmdbphaaGreatDoor
section
variable {P : Program} {ops : Array Oper} {md : Region.Mode} {Q : Exit → Act → World → Prop}
theorem ready_not {listed : Array Bool} {i j : Nat} {oj : Oper} (hj : j ∈ Region.ready md ops listed) (hoj : ops[j]? = some oj) (hi : i ∈ Region.ready md ops listed) : ∀ e ∈ oj.after, Region.binds md e = true → e.on ≠ i := by
 intro e he hb heq
 obtain ⟨_, oj', hoj', hall⟩ := mem_ready.1 hj
 have : oj' = oj := Option.some.inj (hoj'.symm.trans hoj)
 subst this
 have h1 := hall e he hb
 have h0 := (mem_ready.1 hi).1
 rw [heq, getD_both h0] at h1
 cases h1
def pick (l : List Oper) (idx : List Nat) : List Oper := idx.filterMap (l[·]?)
def SegQ (K : Act → World → Prop) (Q : Exit → Act → World → Prop) : Exit → Act → World → Prop
 | .normal, a, w => K a w
 | e, a, w => Q e a w
theorem letsOut_segQ {K' : Act → World → Prop} (h : LetsOut (SegQ K' Q)) : LetsOut Q := h
theorem wpOp_unseg {i : Nat} {K K' : Act → World → Prop} {a : Act} {w : World} (h : wpOp P ops (SegQ K' Q) i K a w) : wpOp P ops Q i K a w := by
 unfold wpOp at h ⊢
 split
 ·rename_i ho; simp only [ho] at h; exact h
 ·rename_i o ho
  simp only [ho] at h
  split
  ·rename_i hw
   simp only [hw, if_true] at h
   rcases h with h | h
   ·refine .inl ?_
    unfold Oper.wp at *
    generalize (execOp a.eval o).run P w = r at *
    cases r with
    | ok n w' =>
      cases n <;> simp only [Oper.upon] at h ⊢ <;> first
       | exact h
       | exact Calls.mono h (fun e w'' he => by cases e <;> exact he)
    | halt x w' => cases x <;> simp only [Oper.upon] at h ⊢ <;> exact h
   ·exact .inr ⟨h.1, letsOut_segQ h.2⟩
  ·rename_i hw; simp only [hw] at h; exact h
end
end Go.Proofs.YtcmjgghkmdbphaaGreatDoor
namespace Go.Proofs.YtcmjgghkmdbphaaGreatDoor
open Go.RowKit
def cmpI (x y : Int) : Int := if x < y then -1 else if y < x then 1 else 0
theorem isNaN_any (x : Int) (w : World) : Calls Tryz.prog 287 #[.int .i64 x] w fun e w' => e = .returned (.bool false) ∧ w = w' := by
 go_enter Tryz.func287, Tryz.ntmps287
 go_wp2
 go_ret
 simp
theorem cmp_any (x y : Int) (w : World) : Calls Tryz.prog 225 #[.int .i64 x, .int .i64 y] w fun e w' => e = .returned (.int .i64 (cmpI x y)) ∧ w = w' := by
 go_enter Tryz.func225, Tryz.ntmps225
 go_wp2_with (go_at_call 287; refine (isNaN_any _ _).mono ?_; rintro e w' ⟨rfl, rfl⟩)
 all_goals (go_ret; refine ⟨ret_int ?_, rfl⟩; unfold cmpI; (repeat' split) <;> omega)
def orI : List Int → Int
 | [] => 0
 | x :: l => if x = 0 then orI l else x
theorem orI_drop (l : List Int) (k : Nat) (h : k < l.length) : orI (l.drop k) = if l[k] = 0 then orI (l.drop (k + 1)) else l[k] := by
 rw [List.drop_eq_getElem_cons h]; rfl
theorem or_any (xs : List Int) (b c : Nat) (w : World) (hl : xs.length ≤ 1000) (hc : ∀ k x, xs[k]? = some x → w.cell? ⟨b, k, none⟩ = some (.int .i64 x)) :
 Calls Tryz.prog 224 #[.slice (some ⟨b, 0, none⟩) xs.length c] w fun e w' => e = .returned (.int .i64 (orI xs)) ∧ w = w' := by
 have HC := jh hc; clear hc
 go_enter Tryz.func224, Tryz.ntmps224
 go_wp2
 go_loop [8] (fun i => ∃ k : Nat, k ≤ xs.length ∧ i = .int .i64 k ∧ orI (xs.drop k) = orI xs) (fun i => xs.length - (intOf i).toNat)
 case atStart => exact ⟨0, Nat.zero_le _, rfl, rfl⟩
 case round =>
  obtain ⟨k, hk, rfl, hr⟩ := hrel
  have HR := jh hr; clear hr
  by_cases hlt : k < xs.length
  ·have hd := jh (orI_drop xs k hlt)
   have hck := HC.out k xs[k] (jg hlt)
   go_wp2
   ·go_ret
    refine ⟨ret_int ?_, rfl⟩
    have h0 : (xs[k] != 0) = true := by assumption
    rw [← HR.out, hd.out, if_neg (by simpa using h0)]
   ·go_round
    case rel => exact ⟨k + 1, by omega, by go_num, by
     have h0 : (xs[k] != 0) = false := by first | assumption | (simp; assumption)
     rw [← HR.out, hd.out, if_pos (by simpa using h0)]⟩
    case measure => simp [intOf]; omega
  ·go_wp2
   go_ret
   refine ⟨ret_int ?_, rfl⟩
   rw [← HR.out, List.drop_eq_nil_of_le (by omega)]; rfl
def hashL (l : List UInt8) : Int := l.foldl (fun h c => ((bits .xor .u32 h c.toNat) * 16777619) % 4294967296) 2166136261
def hashS (s : Str) : Int := hashL s.data.toList
theorem hash_snoc (l : List UInt8) (c : UInt8) : hashL (l ++ [c]) = (bits .xor .u32 (hashL l) c.toNat * 16777619) % 4294967296 := by
 unfold hashL; rw [List.foldl_append]; rfl
theorem take_snocB (s : ByteArray) (k : Nat) (h : k < s.size) : s.data.toList.take (k + 1) = s.data.toList.take k ++ [s[k]] := by
 rw [List.take_succ_eq_append_getElem (by simpa using h)]; rfl
theorem hash_bd (l : List UInt8) : 0 ≤ hashL l ∧ hashL l < 4294967296 := by
 rcases List.eq_nil_or_concat l with rfl | ⟨l', c, rfl⟩
 ·decide
 ·rw [List.concat_eq_append, hash_snoc]; omega
theorem hash_any (s : Str) (w : World) (hs : s.size ≤ 9223372036854775807) :
 Calls Tryz.prog 217 #[.string s] w fun e w' => e = .returned (.int .u32 (hashS s)) ∧ w = w' := by
 go_enter Tryz.func217, Tryz.ntmps217
 go_wp2
 go_loop [3, 7] (fun h i => ∃ k : Nat, k ≤ s.size ∧ i = .int .i64 k ∧ h = .int .u32 (hashL (s.data.toList.take k))) (fun _ i => s.size - (intOf i).toNat)
 case atStart => exact ⟨0, Nat.zero_le _, rfl, rfl⟩
 case round =>
  obtain ⟨k, hk, rfl, rfl⟩ := hrel
  by_cases hlt : k < s.size
  ·have hsn := hash_snoc (s.data.toList.take k) s[k]
   have hts := take_snocB s k hlt
   rw [← hts] at hsn
   have HS := jh hsn
   clear hsn hts
   go_wp2
   all_goals
    go_round
    case rel => exact ⟨k + 1, by omega, by go_num, by rw [HS.out, show ((s[k].toNat : Int)) % 4294967296 = s[k].toNat from by have := s[k].toNat_lt; omega]⟩
    case measure => simp [intOf]; omega
  ·go_wp2
   go_ret
   exact ⟨by rw [List.take_of_length_le (by simp; omega)]; rfl, rfl⟩
theorem hashI_any (s : Str) (w : World) (hs : s.size ≤ 9223372036854775807) :
 Calls Tryz.prog 123 #[.string s] w fun e w' => e = .returned (.int .i64 (hashS s)) ∧ w = w' := by
 have hb : 0 ≤ hashS s ∧ hashS s < 4294967296 := hash_bd s.data.toList
 have h0 := hb.1
 have h1 := hb.2
 go_enter Tryz.func123, Tryz.ntmps123
 go_wp2_with fail
 refine (hash_any s w hs).mono ?_
 rintro e w' ⟨rfl, rfl⟩
 go_wp2
 go_ret
 exact ⟨rfl, rfl⟩
def namedB (c : Int) : Bool := c == 45 || c == 95 || c == 46 || c == 47 || (decide (97 ≤ c) && decide (c ≤ 122)) || (decide (65 ≤ c) && decide (c ≤ 90)) || (decide (48 ≤ c) && decide (c ≤ 57)) || decide (161 ≤ c)
def controlB (c : Int) : Bool := decide (c < 32) || c == 127
theorem control_any (c : Int) (w : World) : Calls Tryz.prog 306 #[.int .i32 c] w fun e w' => e = .returned (.bool (controlB c)) ∧ w = w' := by
 go_enter Tryz.func306, Tryz.ntmps306
 go_wp2
 ·go_ret
  exact ⟨ret_bool (by unfold controlB; simp [*]), rfl⟩
 ·go_ret
  exact ⟨ret_bool (by unfold controlB; rw [decide_eq_true (by assumption)]; rfl), rfl⟩
theorem named_any (c : Int) (w : World) : Calls Tryz.prog 289 #[.int .i32 c] w fun e w' => e = .returned (.bool (namedB c)) ∧ w = w' := by
 go_enter Tryz.func289, Tryz.ntmps289
 go_wp2
 all_goals (go_ret; go_light; refine ⟨ret_bool ?_, rfl⟩; unfold namedB; rw [Bool.eq_iff_iff]; simp at *; omega)
theorem keyRune_any (c : Int) (w : World) : Calls Tryz.prog 305 #[.int .i32 c] w fun e w' => e = .returned (.bool (!controlB c)) ∧ w = w' := by
 go_enter Tryz.func305, Tryz.ntmps305
 go_wp2_with (go_at_call 306; refine (control_any _ _).mono ?_; rintro e w' ⟨rfl, rfl⟩)
 go_ret
 exact ⟨rfl, rfl⟩
end Go.Proofs.YtcmjgghkmdbphaaGreatDoor
