/- ShellNumbers: where it begins, and what is known. -/
import Derived.Test.YtkmjdfcfcfmkdaaGreatDoorGua
import Derived.Test.YtkmjdfcfcfmkdaaGreatDoorNum
namespace Go.Proofs.YtkmjdfcfcfmkdaaGreatDoor.X
open Go.RowKit S
noncomputable def snS : St := addO (addG (addG (start0 21 1 2) 4 [.float .f64 3]) 5 [.float .f64 3]) 3 (.cells (Lib.pow10Tab.map fun z => Value.int .u64 z).toArray 0 (0, 0))
noncomputable abbrev snK : FuncId → List Value → St → Option (Value × St) := orK (KA [5] 1 2) (orK (KJ 20) (orK (KTx 22 99) (KNum 29 4 5 3)))
theorem snK_ok {V : Nat} : Known Tryz.prog 21 V snK := known_or (known_KA (by decide) (by decide) fun g hg => by rw [List.mem_singleton.1 hg]; exact awake30u) (known_or (known_KJ joinC) (known_or (known_KTx cntC idxC) (known_KNum (by decide) (by decide) (by decide) numC)))
noncomputable def snRun (x y : Value) : Bool := okTrue ((goF Tryz.prog 21 snK 10000000).call 3 [x, y] snS)
structure SnW (w : World) : Prop where
  tabs : Lib.Utf8Tabs 1 2 w
  esyn : ∃ v, w.cell? ⟨4, 0, none⟩ = some v ∧ IfcV v
  erng : ∃ v, w.cell? ⟨5, 0, none⟩ = some v ∧ IfcV v
  pows : ∃ e fz, w.heap[3]? = some (.cells (Lib.pow10Tab.map fun z => Value.int .u64 z).toArray e fz)
theorem sn_start {V : Nat} {w : World} (h : SnW w) : WRel Tryz.prog ⟨21, w.heap.size, w, V, fun _ => False⟩ (startR 21 V) snS w := by
  have key : ∀ {g : Nat}, (∃ v, w.cell? ⟨g, 0, none⟩ = some v ∧ IfcV v) → ∀ (j : Nat) (v : Value), [Value.float .f64 3][j]? = some v → ∃ v', w.cell? ⟨g, j, none⟩ = some v' ∧ VRel (startR 21 V) v v' := by
    rintro g ⟨u, h1, h2⟩ j v hj
    cases j with
    | zero =>
      simp only [List.getElem?_cons_zero, Option.some.injEq] at hj
      subst hj
      exact ⟨u, h1, .txt 3 _ (.inr (.inr ⟨rfl, h2⟩))⟩
    | succ j => simp at hj
  obtain ⟨e, fz, hp⟩ := h.pows
  have h0 : WRel Tryz.prog ⟨21, w.heap.size, w, V, fun _ => False⟩ (startR 21 V) (start0 21 1 2) w := start_rel (by decide) (by decide) (by decide) h.tabs
  unfold snS
  generalize start0 21 1 2 = s0 at h0 ⊢
  have h1 := add_tab (g := 4) (cs := [.float .f64 3]) h0 (by decide) (by decide) (key h.esyn)
  have h2 := add_tab (g := 5) (cs := [.float .f64 3]) h1 (by decide) (by decide) (key h.erng)
  exact add_obj h2 (by decide) hp
theorem sn_of {V : Nat} {x y : Value} {n m : Int} (hr : snRun x y = true) (hx : VRel (startR 21 V) x (.int .i64 n)) (hy : VRel (startR 21 V) y (.int .i64 m)) {w : World} (h : SnW w) : Calls Tryz.prog 3 #[.int .i64 n, .int .i64 m] w fun r w' => r = .returned (.bool true) ∧ Below w.heap.size w w' :=
  true_of_runS (V := V) (K := snK) (n := 10000000) (s := snS) (args := [x, y]) (args' := [.int .i64 n, .int .i64 m]) follows snK_ok hr (.cons _ _ _ _ hx (.cons _ _ _ _ hy .nil)) (sn_start (V := V) h)
theorem sn_sym {V lo hi : Nat} (h : (lo : Int) ≤ symI V ∧ symI V ≤ hi) {c : Nat} (h0 : sOff c = 0) (h1 : sLo c = lo) (h2 : sHi c = hi) : VRel (startR 21 V) (.complex .f32 20 c) (.int .i64 (symI V)) := sym_relB h0 fun _ => by rw [h1, h2]; exact h
theorem sn_any {V : Nat} (m : Int) : VRel (startR 21 V) (.float .f64 1) (.int .i64 m) := .txt 1 _ (.inr (.inl ⟨rfl, m, rfl⟩))
end Go.Proofs.YtkmjdfcfcfmkdaaGreatDoor.X
