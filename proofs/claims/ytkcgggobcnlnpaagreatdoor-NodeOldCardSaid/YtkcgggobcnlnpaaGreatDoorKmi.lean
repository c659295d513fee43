/- Calls that were run before, found by what they are called with; a number round a number. -/
import Derived.Test.YtkcgggobcnlnpaaGreatDoorKmt
import Derived.Deep.OwnRows
import Derived.Lib.Hide
import Derived.WalkKit
import Derived.ProofKit
namespace Go.Proofs.YtkcgggobcnlnpaaGreatDoor.X
open Go.RowKit
noncomputable def KI (G : Nat) (sel : FuncId → List Value → Option Seg) (f : FuncId) (args : List Value) (s : St) : Option (Value × St) :=
  Option.rec (motive := fun _ => Option (Value × St)) none (fun g => KR G g f args s) (sel f args)
theorem known_KI {P : Program} {G V : Nat} {sel : FuncId → List Value → Option Seg} (h : ∀ f args g, sel f args = some g → Good P G V g) : Known P G V (KI G sel) := by
  intro f args s v s2 hk b ρ w args' hbG hw hl cs
  unfold KI at hk
  cases hg : sel f args with
  | none => rw [hg] at hk; cases hk
  | some g => rw [hg] at hk; exact h f args g hg hk hbG hw hl cs
/-- All numbers from i on, n of them. -/
noncomputable def allFrom (p : Nat → Bool) (n : Nat) : Nat → Bool :=
  Nat.rec (motive := fun _ => Nat → Bool) (fun _ => true) (fun _ go i => iff' (forceN i p) (forceN (Nat.succ i) go) false) n
theorem allFrom_at {p : Nat → Bool} : ∀ {n i : Nat}, allFrom p n i = true → ∀ {j : Nat}, i ≤ j → j < i + n → p j = true
  | 0, _, _, _, h1, h2 => by omega
  | n + 1, i, h, j, h1, h2 => by
    have h' : iff' (forceN i p) (forceN (Nat.succ i) (allFrom p n)) false = true := h
    rw [iff_eq, forceN_eq, forceN_eq] at h'
    cases hp : p i with
    | false => rw [hp] at h'; cases h'
    | true =>
      rw [hp] at h'
      by_cases he : i = j
      · rw [← he]; exact hp
      · exact allFrom_at (n := n) (i := i + 1) h' (by omega) (by omega)
theorem good_from {P : Program} {G V : Nat} {K : FuncId → List Value → St → Option (Value × St)} (hm : P.follows .mixedOrders = true) (hK : Known P G V K) {n N : Nat} {g : Nat → Seg} {a : Nat}
    (h : allFrom (fun i => segOk P G K n (g i)) N a = true) {j : Nat} (h1 : a ≤ j) (h2 : j < a + N) : Good P G V (g j) := good_of hm hK (allFrom_at h h1 h2)

/-! ### Check sums: some number -/
noncomputable def KSum (fS : Nat) (g : FuncId) (args : List Value) (s : St) : Option (Value × St) :=
  bif Nat.beq g fS then
    match args with
    | [.slice (some a) n _] =>
      match getCells s a with
      | some cs =>
        let l := takeL n (dropL a.off cs)
        bif (Nat.beq (lenL l) n && Nat.ble n 1000000) && bytesLike l then some (.chan (some 0), s) else none
      | none => none
    | _ => none
  else none
theorem known_KSum {P : Program} {G V fS : Nat} (h3 : SumC P fS) : Known P G V (KSum fS) := by
  intro g args s v s2 hk b ρ w args' hbG hw hl cs
  unfold KSum at hk
  cases hg3 : Nat.beq g fS with
  | false => rw [hg3] at hk; cases hk
  | true =>
    rw [hg3] at hk
    have := Nat.eq_of_beq_eq_true hg3
    subst this
    simp only [cond_true] at hk
    split at hk
    · rename_i a n c
      cases hc : getCells s a with
      | none => rw [hc] at hk; cases hk
      | some cs' =>
        rw [hc] at hk
        dsimp only at hk
        obtain ⟨g1, hk⟩ := bif_some hk
        simp only [Bool.and_eq_true] at g1
        obtain ⟨⟨g1, g2⟩, g3⟩ := g1
        have hn := Nat.eq_of_beq_eq_true g1
        have hn2 := Nat.le_of_ble_eq_true g2
        rw [lenL_eq, takeL_eq, dropL_eq] at hn
        rw [takeL_eq, dropL_eq] at g3
        injection hk with hk
        injection hk with e1 e2
        subst e1; subst e2
        cases hl with
        | cons _ v1 _ _ hv1 ht =>
        cases ht
        cases hv1 with
        | sliceE a a' c c' hsp =>
          exfalso
          unfold getCells at hc
          split at hc
          · split at hc
            · rename_i hs; rw [hs] at hsp; cases hsp
            · cases hc
          · split at hc
            · rename_i hs; rw [hs] at hsp; cases hsp
            · cases hc
          · cases hc
        | slice a a' n c c' ha hcr =>
          obtain ⟨k, cc, e, fz, rfl, hblk, hcell⟩ := hw.cells hc ha
          have key := h3 k.blk (k.sh + a.off) n c' w (by omega) (fun j hj => by
            obtain ⟨v, hv⟩ : ∃ v, ((cs'.drop a.off).take n)[j]? = some v := ⟨_, List.getElem?_eq_getElem (by omega)⟩
            have hbl := bytesLike_at g3 j v hv
            rw [List.getElem?_take, if_pos hj, List.getElem?_drop] at hv
            obtain ⟨v', q1, q2⟩ := hcell _ _ hv
            obtain ⟨x, hx, rfl⟩ := byteLike_rel hbl q2
            refine ⟨x, hx, ?_⟩
            unfold World.cell?
            dsimp only
            rw [hblk]
            dsimp only
            rw [show k.sh + a.off + j = k.sh + (a.off + j) by omega]
            exact q1)
          obtain ⟨_, w', fr, ⟨⟨x, hx, rfl⟩, q1⟩, q2, q3, q4⟩ := key cs
          exact ⟨ρ, .int .u32 x, w', ⟨fun _ _ => rfl, Nat.le_refl _, fun _ _ _ => rfl, hw.grow q1⟩, .any32 x hx, fr, q2, q3, q4⟩
    · cases hk

/-! ### Round -/
noncomputable def KRd (G fR M r : Nat) (f : FuncId) (args : List Value) (s : St) : Option (Value × St) :=
  bif Nat.beq f fR then
    match args with
    | [.complex .f32 i z, .int .i64 (.ofNat m)] => bif (Nat.beq m M && Nat.beq (Nat.succ i) G) && Nat.beq (sOff z) 0 then some (.int .i64 (.ofNat r), s) else none
    | _ => none
  else none
theorem known_KRd {P : Program} {G V fR M r : Nat} (h : ∀ w, CallsU P fR #[.int .i64 (symI V), .int .i64 M] w (.int .i64 (.ofNat r))) : Known P G V (KRd G fR M r) := by
  intro g args s v s2 hk b ρ w args' hbG hw hl cs
  injection hbG with hG hVV
  subst hG; subst hVV
  unfold KRd at hk
  cases hg : Nat.beq g fR with
  | false => rw [hg] at hk; cases hk
  | true =>
    rw [hg] at hk
    have := Nat.eq_of_beq_eq_true hg
    subst this
    simp only [cond_true] at hk
    split at hk
    · rename_i i z m
      obtain ⟨g1, hk⟩ := bif_some hk
      simp only [Bool.and_eq_true] at g1
      have hm := Nat.eq_of_beq_eq_true g1.1.1
      have hi : i + 1 = b.G := Nat.eq_of_beq_eq_true g1.1.2
      have hz0 := Nat.eq_of_beq_eq_true g1.2
      injection hk with hk
      injection hk with e1 e2
      subst e1; subst e2; subst hm
      cases hl with
      | cons _ v1 _ _ hv1 ht =>
      cases ht with
      | cons _ v2 _ _ hv2 ht =>
      cases ht
      cases hv2
      cases hv1 with
      | sym _ _ l xx hlo hxx =>
        have hx1 := hxx.1
        rw [hz0] at hx1
        simp only [Int.natCast_zero, Int.add_zero] at hx1
        subst hx1
        have hgl := hw.glob i (by omega)
        rw [hlo, if_pos hi] at hgl
        injection hgl with hgl
        subst hgl
        exact known_rel (v' := .int .i64 (.ofNat r)) hw (.int _ _) (h w) cs
    · cases hk
end Go.Proofs.YtkcgggobcnlnpaaGreatDoor.X
namespace Go.Proofs.YtkcgggobcnlnpaaGreatDoor
open Go.RowKit
set_option maxHeartbeats 800000 in
theorem round_n (n : Nat) (hn : n ≤ 40) (x : Int) (w : World) (_h0 : -9223372036854775808 ≤ x) (_h1 : x ≤ 9223372036854775807) : Calls Tryz.prog 21 #[.int .i64 x, .int .i64 ((n + 1 : Nat) : Int)] w fun e w' => e = .returned (.int .i64 (x % ((n + 1 : Nat) : Int))) ∧ w = w' := by
  go_enter Tryz.func21, Tryz.ntmps21
  generalize hm : ((n + 1 : Nat) : Int) = m
  have hm1 : 1 ≤ m := by omega
  have hm2 : m ≤ 41 := by omega
  clear hm hn
  have key := Int.tmod_eq_emod (a := x) (b := m)
  have hr0 : 0 ≤ x % m := Int.emod_nonneg _ (by omega)
  have hr1 : x % m < m := Int.emod_lt_of_pos _ (by omega)
  have hna : ((Int.natAbs m : Nat) : Int) = m := by omega
  have e1 : x.tmod m < 0 → wrap64 (x.tmod m + m) = x % m := fun h => by
    rw [key] at h ⊢
    by_cases hc : 0 ≤ x ∨ m ∣ x
    · rw [if_pos hc] at h; omega
    · rw [if_neg hc, hna]
      unfold wrap64
      omega
  have e2 : 0 ≤ x.tmod m → x.tmod m = x % m := fun h => by
    rw [key] at h ⊢
    by_cases hc : 0 ≤ x ∨ m ∣ x
    · rw [if_pos hc]; omega
    · rw [if_neg hc] at h
      rw [hna] at h
      omega
  have E1 := Lib.hid e1
  have E2 := Lib.hid e2
  clear e1 e2 key hr0 hr1 hna
  go_wp2
  · rename_i h
    go_ret
    exact ⟨by rw [E1.out h]; rfl, rfl⟩
  · rename_i h
    go_ret
    exact ⟨by rw [E2.out (by omega)]; rfl, rfl⟩
theorem X.roundU (n : Nat) (hn : n ≤ 40) {V : Nat} (hV : -9223372036854775808 ≤ X.symI V ∧ X.symI V ≤ 9223372036854775807) {r : Nat} (hr : X.symI V % ((n + 1 : Nat) : Int) = r) (w : World) : X.CallsU Tryz.prog 21 #[.int .i64 (X.symI V), .int .i64 ((n + 1 : Nat) : Int)] w (.int .i64 (.ofNat r)) :=
  (round_n n hn _ w hV.1 hV.2).mono fun _ _ h => ⟨by rw [h.1, hr]; rfl, by rw [← h.2]; exact Below.refl _ _⟩
end Go.Proofs.YtkcgggobcnlnpaaGreatDoor
