/- A runner for closed calls, part 10: Zl Zs Zu Zr. -/
import Derived.Test.YteooccaicheleaaGreatDoorKni
import Derived.Lib.Join
import GoSem.ClaimFn
namespace Go.Proofs.YteooccaicheleaaGreatDoor.X
open Go.RowKit

/-! ### strings.Join, known -/
noncomputable def strsOf (l : List Value) : Option (List ByteArray) :=
  List.rec (motive := fun _ => Option (List ByteArray)) (some []) (fun v _ r => match v, r with | .string b, some r => some (b :: r) | _, _ => none) l
noncomputable def KJ (f : FuncId) (g : FuncId) (args : List Value) (s : St) : Option (Value × St) :=
  bif Nat.beq g f then
    match args with
    | [.slice (some a) n _, .string sep] =>
      match getCells s a with
      | some cs =>
        match strsOf (takeL n (dropL a.off cs)) with
        | some xs => bif Nat.beq (lenL xs) n && (Nat.ble n 1000 && Nat.ble (lenL (Lib.join (xs.map (·.data.toList)) sep.data.toList)) 1000000) then some (.string ⟨⟨Lib.join (xs.map (·.data.toList)) sep.data.toList⟩⟩, s) else none
        | none => none
      | none => none
    | _ => none
  else none
/-- What strings.Join does, as the shelf says it. -/
def JoinC (P : Program) (f : FuncId) : Prop := ∀ (bk o c : Nat) (xs : List ByteArray) (sep : ByteArray) (w : World), (∀ (j : Nat) x, xs[j]? = some x → w.cell? ⟨bk, o + j, none⟩ = some (.string x)) → bk < w.heap.size → xs.length ≤ 140737488355328 → xs.length ≤ c →
  (Lib.join (xs.map (·.data.toList)) sep.data.toList).length ≤ 140737488355328 →
  Calls P f #[.slice (some ⟨bk, o, none⟩) xs.length c, .string sep] w fun e w' => e = .returned (.string ⟨(Lib.join (xs.map (·.data.toList)) sep.data.toList).toArray⟩) ∧ Below w.heap.size w w'
theorem strsOf_get : ∀ {l : List Value} {xs : List ByteArray}, strsOf l = some xs → ∀ (j : Nat) x, xs[j]? = some x → l[j]? = some (.string x)
  | [], xs, h, j, x, hj => by injection h with h; subst h; simp at hj
  | v :: l, xs, h, j, x, hj => by
    have h' : (match (generalizing := false) v, strsOf l with | .string b, some r => some (b :: r) | _, _ => none) = some xs := h
    cases v <;> first | (cases h'; done) | skip
    cases hs : strsOf l with
    | none => rw [hs] at h'; cases h'
    | some r =>
      rw [hs] at h'
      injection h' with h'
      subst h'
      cases j with
      | zero => injection hj with hj; subst hj; rfl
      | succ j => exact strsOf_get hs j x hj
section
variable {P : Program} {G V : Nat}
theorem known_KJ {f : FuncId} (h : JoinC P f) : Known P G V (KJ f) := by
  intro g args s v s2 hk b ρ w args' hbG hw hl cs
  unfold KJ at hk
  cases hg : Nat.beq g f with
  | false => rw [hg] at hk; cases hk
  | true =>
    rw [hg] at hk
    have := Nat.eq_of_beq_eq_true hg
    subst this
    simp only [cond_true] at hk
    split at hk
    · rename_i a n c sep
      cases hc : getCells s a with
      | none => rw [hc] at hk; cases hk
      | some cs' =>
        rw [hc] at hk
        dsimp only at hk
        cases hx : strsOf (takeL n (dropL a.off cs')) with
        | none => rw [hx] at hk; cases hk
        | some xs =>
          rw [hx] at hk
          dsimp only at hk
          cases hb : (Nat.beq (lenL xs) n && (Nat.ble n 1000 && Nat.ble (lenL (Lib.join (xs.map (·.data.toList)) sep.data.toList)) 1000000)) with
          | false => rw [hb] at hk; cases hk
          | true =>
            rw [hb] at hk
            simp only [cond_true, Option.some.injEq, Prod.mk.injEq] at hk
            obtain ⟨rfl, rfl⟩ := hk
            simp only [Bool.and_eq_true] at hb
            have hn := Nat.eq_of_beq_eq_true hb.1
            have h1 := Nat.le_of_ble_eq_true hb.2.1
            have h2 := Nat.le_of_ble_eq_true hb.2.2
            rw [lenL_eq] at hn h2
            cases hl with
            | cons _ v1 _ _ hv1 ht =>
            cases ht with
            | cons _ v2 _ _ hv2 ht =>
            cases ht
            cases hv2
            cases hv1 with
            | sliceE a a' c c' hsp =>
              exfalso
              unfold getCells at hc
              split at hc
              · split at hc
                · rename_i hs; rw [hs] at hsp; cases hsp
                · cases hc
              · split at hc
                · rename_i hs; rw [hs] at hsp; cases hsp
                · cases hc
              · cases hc
            | slice a a' n c c' ha hcr =>
              obtain ⟨k, cc, e, fz, rfl, hblk, hcell⟩ := hw.cells hc ha
              refine known_flat hw rfl ?_ cs
              have hle := hcr.1
              have key := h k.blk (k.sh + a.off) c' xs sep w (fun j x hj => ?_) (Array.getElem?_eq_some_iff.1 hblk).1 (by omega) (by omega) (by omega)
              · rw [hn] at key; exact key
              have g1 := strsOf_get hx j x hj
              rw [takeL_eq, dropL_eq, List.getElem?_take] at g1
              split at g1
              · rw [List.getElem?_drop] at g1
                obtain ⟨v', g2, g3⟩ := hcell _ _ g1
                cases g3
                unfold World.cell?
                dsimp only
                rw [hblk]
                dsimp only
                rw [show k.sh + a.off + j = k.sh + (a.off + j) by omega]
                exact g2
              · cases g1
    · cases hk
/-- Two kinds of known calls. -/
noncomputable def orK (K1 K2 : FuncId → List Value → St → Option (Value × St)) (g : FuncId) (args : List Value) (s : St) : Option (Value × St) :=
  match K1 g args s with | some r => some r | none => K2 g args s
theorem known_or {K1 K2 : FuncId → List Value → St → Option (Value × St)} (h1 : Known P G V K1) (h2 : Known P G V K2) : Known P G V (orK K1 K2) := by
  intro g args s v s2 hk b ρ w args' hbG hw hl cs
  unfold orK at hk
  cases h : K1 g args s with
  | some r =>
    rw [h] at hk
    injection hk with hk
    subst hk
    exact h1 h hbG hw hl cs
  | none => rw [h] at hk; exact h2 hk hbG hw hl cs
/-- A closed call, by the quick runner. -/
theorem true_of_runF (hm : P.follows .mixedOrders = true) {K : FuncId → List Value → St → Option (Value × St)} (hK : Known P G V K) {f a n : Nat} (hf : f + 1 < G) (ha : a + 1 < G) (hne : f ≠ a) {g : FuncId} {args args' : List Value}
    (hrun : okTrue ((goF P G K n).call g args (start0 G f a)) = true) (hargs : LRel (startR G V) args args') : ∀ w, Lib.Utf8Tabs f a w → CallsU P g ⟨args'⟩ w (.bool true) := by
  rw [goF_eq] at hrun
  exact true_of_runK hm hK hf ha hne hrun hargs
end
end Go.Proofs.YteooccaicheleaaGreatDoor.X

namespace Go.Proofs.YteooccaicheleaaGreatDoor.X
open Go.RowKit

/-! ### More variables that are known at the start -/
section
variable {P : Program} {G V : Nat} {w : World}
noncomputable def addG (s : St) (g : Nat) (cs : List Value) : St := { heap := s.heap.set g (.tab cs), next := s.next }
/-- A variable whose cells are known. -/
theorem add_tab {s : St} (h : WRel P ⟨G, w.heap.size, w, V⟩ (startR G V) s w) {g : Nat} {cs : List Value} (hg : g + 1 < G) (hl : 0 < cs.length)
    (hc : ∀ (j : Nat) (v : Value), cs[j]? = some v → w.cell? ⟨g, j, none⟩ = some v ∧ flat v = true) : WRel P ⟨G, w.heap.size, w, V⟩ (startR G V) (addG s g cs) w := by
  have hget : ∀ i, (addG s g cs).heap.get i = if i = g then some (.tab cs) else s.heap.get i := fun i => by unfold addG; rw [Tr.get_set]
  have hob : ∃ o', w.heap[g]? = some o' ∧ ORel P (startR G V) ⟨g, 0, 0⟩ (.tab cs) o' := by
    obtain ⟨h0, _⟩ := hc 0 cs[0] (List.getElem?_eq_getElem hl)
    unfold World.cell? at h0
    dsimp only at h0
    cases ho : w.heap[g]? with
    | none => rw [ho] at h0; cases h0
    | some o =>
      cases o with
      | cells c e fz =>
        refine ⟨_, rfl, c, e, fz, rfl, fun j v hj => ⟨v, ?_, flat_refl _ (hc j v hj).2⟩⟩
        have := (hc j v hj).1
        unfold World.cell? at this
        rw [ho] at this
        simpa using this
      | _ => rw [ho] at h0; cases h0
  have hblk : ∀ i l, startR G V i = some l → l.blk = i := fun i l hi => by
    unfold startR at hi
    split at hi
    · injection hi with hi; subst hi; rfl
    · cases hi
  refine ⟨fun i o l hi hd hl => ?_, fun i j o o' l l' hne hi hd hj hd' hl hl' => ?_, h.dom, fun i hi => ?_, h.low, h.glob, h.base, h.size, h.below⟩
  · rw [hget] at hi
    split at hi
    · rename_i he
      subst he
      injection hi with hi
      subst hi
      have : startR G V i = some ⟨i, 0, 0⟩ := by
        unfold startR
        rw [if_pos (by omega), if_neg (by omega)]
      rw [this] at hl
      injection hl with hl
      subst hl
      exact hob
    · exact h.heap i o l hi hd hl
  · rw [hblk i l hl, hblk j l' hl']; exact hne
  · have hb : G ≤ s.next := h.base
    have hi : s.next ≤ i := hi
    rw [hget, if_neg (by omega)]
    exact h.fresh i hi
/-- A closed call from any start, by the quick runner. -/
theorem true_of_runS (hm : P.follows .mixedOrders = true) {K : FuncId → List Value → St → Option (Value × St)} (hK : Known P G V K) {n : Nat} {s : St} {g : FuncId} {args args' : List Value}
    (hrun : okTrue ((goF P G K n).call g args s) = true) (hargs : LRel (startR G V) args args') {w : World} (hw : WRel P ⟨G, w.heap.size, w, V⟩ (startR G V) s w) : CallsU P g ⟨args'⟩ w (.bool true) := by
  rw [goF_eq] at hrun
  obtain ⟨s2, hr⟩ := okTrue_ok hrun
  exact runU_of_goK (draw_ok hm G) hK hr hw hargs rfl
end
end Go.Proofs.YteooccaicheleaaGreatDoor.X

namespace Go.Proofs.YteooccaicheleaaGreatDoor.X
open Go.RowKit

/-! ### Letters, short texts of ASCII, check sums: known -/
def byteLike : Value → Bool
  | .chan none => true
  | .int .u8 (.ofNat x) => Nat.ble (Nat.succ x) 256
  | _ => false
noncomputable def bytesLike (l : List Value) : Bool := List.rec (motive := fun _ => Bool) true (fun v _ b => byteLike v && b) l
noncomputable def KN (G fL fV fS : Nat) (g : FuncId) (args : List Value) (s : St) : Option (Value × St) :=
  bif Nat.beq g fL then
    match args with
    | [.int .i64 (.ofNat n), .complex .f32 i _] => bif Nat.ble n 7 && Nat.beq (Nat.succ i) G then some (bif Nat.beq n 0 then .string ⟨⟨[]⟩⟩ else .complex .f64 i n, s) else none
    | _ => none
  else bif Nat.beq g fV then
    match args with
    | [.complex .f64 _ n] => bif Nat.ble n 8 then some (.bool true, s) else none
    | _ => none
  else bif Nat.beq g fS then
    match args with
    | [.slice (some a) n _] =>
      match getCells s a with
      | some cs =>
        let l := takeL n (dropL a.off cs)
        bif (Nat.beq (lenL l) n && Nat.ble n 1000000) && bytesLike l then some (.chan (some 0), s) else none
      | none => none
    | _ => none
  else none
section
variable {P : Program} {G V : Nat} {b : Base} {ρ : Ren} {s : St} {w : World}
def LetC (P : Program) (f : FuncId) : Prop := ∀ (n : Nat) (k : Int) (w : World), n ≤ 7 → -9223372036854775808 ≤ k ∧ k ≤ 9223372036854775807 → CallsU P f #[.int .i64 n, .int .i64 k] w (.string (letS n k))
def ValC (P : Program) (f : FuncId) : Prop := ∀ (s : ByteArray) (w : World), s.size ≤ 8 → (∀ x ∈ s.data.toList, x.toNat < 128) → CallsU P f #[.string s] w (.bool true)
def SumC (P : Program) (f : FuncId) : Prop := ∀ (bk o n c : Nat) (w : World), n ≤ 140737488355328 → (∀ j, j < n → ∃ x : Nat, x < 256 ∧ w.cell? ⟨bk, o + j, none⟩ = some (.int .u8 x)) →
  Calls P f #[.slice (some ⟨bk, o, none⟩) n c] w fun e w' => (∃ x : Nat, x < 4294967296 ∧ e = .returned (.int .u32 x)) ∧ Below w.heap.size w w'
theorem known_rel {f : FuncId} {args' : List Value} {v v' : Value} (hw : WRel P b ρ s w) (hv : VRel ρ v v') (h : CallsU P f ⟨args'⟩ w v') (cs : List Frame) :
    ∃ ρ' v' w', Ok P b ρ s ρ' s w' ∧ VRel ρ' v v' ∧ ∃ fr, Steps P (lone (Frame.enter P f ⟨args'⟩ .normal) cs w) (lone fr cs w') ∧ fr.fn = f ∧ fr.leaving P w' (.returned v') := by
  obtain ⟨_, w', fr, ⟨rfl, g1⟩, g2, g3, g4⟩ := h cs
  exact ⟨ρ, v', w', ⟨fun _ _ => rfl, Nat.le_refl _, fun _ _ _ => rfl, hw.grow g1⟩, hv, fr, g2, g3, g4⟩
theorem letS_zero (k : Int) : letS 0 k = ⟨⟨[]⟩⟩ := rfl
theorem letAt_lt (i : Nat) (k : Int) : letAt i k < 128 := by
  unfold letAt
  omega
theorem letS_ascii (n : Nat) (k : Int) : ∀ x ∈ (letS n k).data.toList, x.toNat < 128 := fun x hx => by
  obtain ⟨i, _, rfl⟩ := List.mem_map.1 hx
  have := letAt_lt i k
  rw [UInt8.toNat_ofNat']
  omega
theorem bytesLike_at : ∀ {l : List Value}, bytesLike l = true → ∀ (j : Nat) v, l[j]? = some v → byteLike v = true
  | [], _, j, v, h => by simp at h
  | x :: l, hb, j, v, h => by
    have hb' : (byteLike x && bytesLike l) = true := hb
    simp only [Bool.and_eq_true] at hb'
    cases j with
    | zero => injection h with h; subst h; exact hb'.1
    | succ j => exact bytesLike_at hb'.2 j v h
theorem byteLike_rel {v v' : Value} (h : byteLike v = true) (hv : VRel ρ v v') : ∃ x : Nat, x < 256 ∧ v' = .int .u8 x := by
  unfold byteLike at h
  split at h
  · cases hv; exact ⟨_, by assumption, rfl⟩
  · cases hv
    exact ⟨_, Nat.le_of_ble_eq_true h, rfl⟩
  · cases h
theorem known_KN {fL fV fS : Nat} (hV : -9223372036854775808 ≤ symI V ∧ symI V ≤ 9223372036854775807) (h1 : LetC P fL) (h2 : ValC P fV) (h3 : SumC P fS) : Known P G V (KN G fL fV fS) := by
  intro g args s v s2 hk b ρ w args' hbG hw hl cs
  injection hbG with hG hVV
  subst hG; subst hVV
  unfold KN at hk
  cases hg : Nat.beq g fL with
  | true =>
    rw [hg] at hk
    have := Nat.eq_of_beq_eq_true hg
    subst this
    simp only [cond_true] at hk
    split at hk
    · rename_i n i bb
      obtain ⟨g1, hk⟩ := bif_some hk
      simp only [Bool.and_eq_true] at g1
      have hn := Nat.le_of_ble_eq_true g1.1
      have hi : i + 1 = b.G := Nat.eq_of_beq_eq_true g1.2
      injection hk with hk
      injection hk with e1 e2
      subst e1; subst e2
      cases hl with
      | cons _ v1 _ _ hv1 ht =>
      cases ht with
      | cons _ v2 _ _ hv2 ht =>
      cases ht
      cases hv1
      cases hv2 with
      | sym _ _ l hlo =>
        have hgl := hw.glob i (by omega)
        rw [hlo, if_pos hi] at hgl
        injection hgl with hgl
        subst hgl
        have q : VRel ρ (.complex .f64 i n) (.string (letS n (symI b.val))) := VRel.sstr i n ⟨i, b.val, 0⟩ hlo
        have q0 := h1 n (symI b.val) w hn hV
        generalize symI b.val = kk at q q0
        clear hV
        refine known_rel (v' := .string (letS n kk)) hw ?_ q0 cs
        cases hz : Nat.beq n 0 with
        | true =>
          have := Nat.eq_of_beq_eq_true hz
          subst this
          rw [letS_zero]
          exact .string _
        | false => exact q
    · cases hk
  | false =>
  rw [hg] at hk
  simp only [cond_false] at hk
  cases hg2 : Nat.beq g fV with
  | true =>
    rw [hg2] at hk
    have := Nat.eq_of_beq_eq_true hg2
    subst this
    simp only [cond_true] at hk
    split at hk
    · rename_i i n
      obtain ⟨g1, hk⟩ := bif_some hk
      have hn := Nat.le_of_ble_eq_true g1
      injection hk with hk
      injection hk with e1 e2
      subst e1; subst e2
      cases hl with
      | cons _ v1 _ _ hv1 ht =>
      cases ht
      cases hv1 with
      | sstr _ _ l hlo =>
        exact known_rel hw (.bool true) (h2 _ w (by rw [letS_size]; exact hn) (letS_ascii _ _)) cs
    · cases hk
  | false =>
  rw [hg2] at hk
  simp only [cond_false] at hk
  cases hg3 : Nat.beq g fS with
  | false => rw [hg3] at hk; cases hk
  | true =>
    rw [hg3] at hk
    have := Nat.eq_of_beq_eq_true hg3
    subst this
    simp only [cond_true] at hk
    split at hk
    · rename_i a n c
      cases hc : getCells s a with
      | none => rw [hc] at hk; cases hk
      | some cs' =>
        rw [hc] at hk
        dsimp only at hk
        obtain ⟨g1, hk⟩ := bif_some hk
        simp only [Bool.and_eq_true] at g1
        obtain ⟨⟨g1, g2⟩, g3⟩ := g1
        have hn := Nat.eq_of_beq_eq_true g1
        have hn2 := Nat.le_of_ble_eq_true g2
        rw [lenL_eq, takeL_eq, dropL_eq] at hn
        rw [takeL_eq, dropL_eq] at g3
        injection hk with hk
        injection hk with e1 e2
        subst e1; subst e2
        cases hl with
        | cons _ v1 _ _ hv1 ht =>
        cases ht
        cases hv1 with
        | sliceE a a' c c' hsp =>
          exfalso
          unfold getCells at hc
          split at hc
          · split at hc
            · rename_i hs; rw [hs] at hsp; cases hsp
            · cases hc
          · split at hc
            · rename_i hs; rw [hs] at hsp; cases hsp
            · cases hc
          · cases hc
        | slice a a' n c c' ha hcr =>
          obtain ⟨k, cc, e, fz, rfl, hblk, hcell⟩ := hw.cells hc ha
          have key := h3 k.blk (k.sh + a.off) n c' w (by omega) (fun j hj => by
            obtain ⟨v, hv⟩ : ∃ v, ((cs'.drop a.off).take n)[j]? = some v := ⟨_, List.getElem?_eq_getElem (by omega)⟩
            have hbl := bytesLike_at g3 j v hv
            rw [List.getElem?_take, if_pos hj, List.getElem?_drop] at hv
            obtain ⟨v', q1, q2⟩ := hcell _ _ hv
            obtain ⟨x, hx, rfl⟩ := byteLike_rel hbl q2
            refine ⟨x, hx, ?_⟩
            unfold World.cell?
            dsimp only
            rw [hblk]
            dsimp only
            rw [show k.sh + a.off + j = k.sh + (a.off + j) by omega]
            exact q1)
          obtain ⟨_, w', fr, ⟨⟨x, hx, rfl⟩, q1⟩, q2, q3, q4⟩ := key cs
          exact ⟨ρ, .int .u32 x, w', ⟨fun _ _ => rfl, Nat.le_refl _, fun _ _ _ => rfl, hw.grow q1⟩, .any32 x hx, fr, q2, q3, q4⟩
    · cases hk
end
end Go.Proofs.YteooccaicheleaaGreatDoor.X

namespace Go.Proofs.YteooccaicheleaaGreatDoor.X
open Go.RowKit

/-! ### What a function reaches, found quicker -/
noncomputable def closF (P : Program) (n : Nat) : List FuncId → List FuncId → Nat → List FuncId :=
  Nat.rec (motive := fun _ => List FuncId → List FuncId → Nat → List FuncId) (fun _ seen _ => seen.reverse)
    (fun _ go todo seen m => List.rec (motive := fun _ => List FuncId) seen.reverse (fun f todo _ =>
      Bool.rec (motive := fun _ => List FuncId) (go (appL (Option.rec (motive := fun _ => List FuncId) [] (fun fn => P.leadsTo fn) (funcF P f)) todo) (f :: seen) (forceN (Nat.lor m (Nat.shiftLeft 1 f)) fun m => m)) (go todo seen m) (bitF m f)) todo) n
theorem bit_or (m f x : Nat) : bitF (Nat.lor m (Nat.shiftLeft 1 f)) x = (x == f || bitF m x) := by
  rw [bitF_eq, bitF_eq]
  show (m ||| 1 <<< f).testBit x = _
  rw [Nat.testBit_or, Nat.one_shiftLeft, Nat.testBit_two_pow, Bool.or_comm]
  congr 1
  rw [Bool.eq_iff_iff]
  simp only [decide_eq_true_eq, beq_iff_eq]
  exact eq_comm
theorem closF_eq (P : Program) : ∀ (n : Nat) (todo seen : List FuncId) (m : Nat), (∀ x, bitF m x = seen.contains x) → closF P n todo seen m = P.closureVia n todo seen
  | 0, _, _, _, _ => by unfold Program.closureVia; rfl
  | n + 1, [], _, _, _ => by unfold Program.closureVia; rfl
  | n + 1, f :: todo, seen, m, h => by
    have e : closF P (n + 1) (f :: todo) seen m = Bool.rec (motive := fun _ => List FuncId) (closF P n (appL (Option.rec (motive := fun _ => List FuncId) [] (fun fn => P.leadsTo fn) (funcF P f)) todo) (f :: seen) (forceN (Nat.lor m (Nat.shiftLeft 1 f)) fun m => m)) (closF P n todo seen m) (bitF m f) := rfl
    rw [e, h f]
    unfold Program.closureVia
    cases hc : seen.contains f with
    | true => exact closF_eq P n todo seen m h
    | false =>
      show closF P n (appL (Option.rec (motive := fun _ => List FuncId) [] (fun fn => P.leadsTo fn) (funcF P f)) todo) (f :: seen) (forceN (Nat.lor m (Nat.shiftLeft 1 f)) fun m => m) = _
      rw [forceN_eq, appL_eq, funcF_eq, closF_eq P n _ (f :: seen) _ (fun x => by rw [bit_or, h x, List.contains_cons])]
      cases P.funcs[f]? <;> rfl
theorem closure_eq (P : Program) (f : FuncId) : P.closure f = closF P (1 + (P.funcs.toList.map fun g => (P.leadsTo g).length + 1).sum) [f] [] 0 := by
  rw [closF_eq P _ [f] [] 0 (fun x => by rw [bitF_eq]; simp)]
  rfl
end Go.Proofs.YteooccaicheleaaGreatDoor.X
