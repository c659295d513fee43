/- A runner for closed calls, part 12: Zl Zs Zu Zw Zx. -/
import Derived.Test.YtdhkebolenbpiaaGreatDoorKnk
import Derived.Lib.Join
namespace Go.Proofs.YtdhkebolenbpiaaGreatDoor.X
open Go.RowKit

/-! ### strings.Join, known -/
noncomputable def strsOf (l : List Value) : Option (List ByteArray) :=
  List.rec (motive := fun _ => Option (List ByteArray)) (some []) (fun v _ r => match v, r with | .string b, some r => some (b :: r) | _, _ => none) l
noncomputable def KJ (f : FuncId) (g : FuncId) (args : List Value) (s : St) : Option (Value × St) :=
  bif Nat.beq g f then
    match args with
    | [.slice (some a) n _, .string sep] =>
      match getCells s a with
      | some cs =>
        match strsOf (takeL n (dropL a.off cs)) with
        | some xs => bif Nat.beq (lenL xs) n && (Nat.ble n 1000 && Nat.ble (lenL (Lib.join (xs.map (·.data.toList)) sep.data.toList)) 1000000) then some (.string ⟨⟨Lib.join (xs.map (·.data.toList)) sep.data.toList⟩⟩, s) else none
        | none => none
      | none => none
    | _ => none
  else none
/-- What strings.Join does, as the shelf says it. -/
def JoinC (P : Program) (f : FuncId) : Prop := ∀ (bk o c : Nat) (xs : List ByteArray) (sep : ByteArray) (w : World), (∀ (j : Nat) x, xs[j]? = some x → w.cell? ⟨bk, o + j, none⟩ = some (.string x)) → bk < w.heap.size → xs.length ≤ 140737488355328 → xs.length ≤ c →
  (Lib.join (xs.map (·.data.toList)) sep.data.toList).length ≤ 140737488355328 →
  Calls P f #[.slice (some ⟨bk, o, none⟩) xs.length c, .string sep] w fun e w' => e = .returned (.string ⟨(Lib.join (xs.map (·.data.toList)) sep.data.toList).toArray⟩) ∧ Below w.heap.size w w'
theorem strsOf_get : ∀ {l : List Value} {xs : List ByteArray}, strsOf l = some xs → ∀ (j : Nat) x, xs[j]? = some x → l[j]? = some (.string x)
  | [], xs, h, j, x, hj => by injection h with h; subst h; simp at hj
  | v :: l, xs, h, j, x, hj => by
    have h' : (match (generalizing := false) v, strsOf l with | .string b, some r => some (b :: r) | _, _ => none) = some xs := h
    cases v <;> first | (cases h'; done) | skip
    cases hs : strsOf l with
    | none => rw [hs] at h'; cases h'
    | some r =>
      rw [hs] at h'
      injection h' with h'
      subst h'
      cases j with
      | zero => injection hj with hj; subst hj; rfl
      | succ j => exact strsOf_get hs j x hj
section
variable {P : Program} {G V : Nat}
theorem known_KJ {f : FuncId} (h : JoinC P f) : Known P G V (KJ f) := by
  intro g args s v s2 hk b ρ w args' hbG hw hl cs
  unfold KJ at hk
  cases hg : Nat.beq g f with
  | false => rw [hg] at hk; cases hk
  | true =>
    rw [hg] at hk
    have := Nat.eq_of_beq_eq_true hg
    subst this
    simp only [cond_true] at hk
    split at hk
    · rename_i a n c sep
      cases hc : getCells s a with
      | none => rw [hc] at hk; cases hk
      | some cs' =>
        rw [hc] at hk
        dsimp only at hk
        cases hx : strsOf (takeL n (dropL a.off cs')) with
        | none => rw [hx] at hk; cases hk
        | some xs =>
          rw [hx] at hk
          dsimp only at hk
          cases hb : (Nat.beq (lenL xs) n && (Nat.ble n 1000 && Nat.ble (lenL (Lib.join (xs.map (·.data.toList)) sep.data.toList)) 1000000)) with
          | false => rw [hb] at hk; cases hk
          | true =>
            rw [hb] at hk
            simp only [cond_true, Option.some.injEq, Prod.mk.injEq] at hk
            obtain ⟨rfl, rfl⟩ := hk
            simp only [Bool.and_eq_true] at hb
            have hn := Nat.eq_of_beq_eq_true hb.1
            have h1 := Nat.le_of_ble_eq_true hb.2.1
            have h2 := Nat.le_of_ble_eq_true hb.2.2
            rw [lenL_eq] at hn h2
            cases hl with
            | cons _ v1 _ _ hv1 ht =>
            cases ht with
            | cons _ v2 _ _ hv2 ht =>
            cases ht
            cases hv2
            cases hv1 with
            | sliceE a a' c c' hsp =>
              exfalso
              unfold getCells at hc
              split at hc
              · split at hc
                · rename_i hs; rw [hs] at hsp; cases hsp
                · cases hc
              · split at hc
                · rename_i hs; rw [hs] at hsp; cases hsp
                · cases hc
              · cases hc
            | slice a a' n c c' ha hcr =>
              obtain ⟨k, cc, e, fz, rfl, hblk, hcell⟩ := hw.cells hc ha
              refine known_flat hw rfl ?_ cs
              have hle := hcr.1
              have key := h k.blk (k.sh + a.off) c' xs sep w (fun j x hj => ?_) (Array.getElem?_eq_some_iff.1 hblk).1 (by omega) (by omega) (by omega)
              · rw [hn] at key; exact key
              have g1 := strsOf_get hx j x hj
              rw [takeL_eq, dropL_eq, List.getElem?_take] at g1
              split at g1
              · rw [List.getElem?_drop] at g1
                obtain ⟨v', g2, g3⟩ := hcell _ _ g1
                cases g3
                unfold World.cell?
                dsimp only
                rw [hblk]
                dsimp only
                rw [show k.sh + a.off + j = k.sh + (a.off + j) by omega]
                exact g2
              · cases g1
    · cases hk
/-- Two kinds of known calls. -/
noncomputable def orK (K1 K2 : FuncId → List Value → St → Option (Value × St)) (g : FuncId) (args : List Value) (s : St) : Option (Value × St) :=
  match K1 g args s with | some r => some r | none => K2 g args s
theorem known_or {K1 K2 : FuncId → List Value → St → Option (Value × St)} (h1 : Known P G V K1) (h2 : Known P G V K2) : Known P G V (orK K1 K2) := by
  intro g args s v s2 hk b ρ w args' hbG hw hl cs
  unfold orK at hk
  cases h : K1 g args s with
  | some r =>
    rw [h] at hk
    injection hk with hk
    subst hk
    exact h1 h hbG hw hl cs
  | none => rw [h] at hk; exact h2 hk hbG hw hl cs
/-- A closed call, by the quick runner. -/
theorem true_of_runF (hm : P.follows .mixedOrders = true) {K : FuncId → List Value → St → Option (Value × St)} (hK : Known P G V K) {f a n : Nat} (hf : f + 1 < G) (ha : a + 1 < G) (hne : f ≠ a) {g : FuncId} {args args' : List Value}
    (hrun : okTrue ((goF P G K n).call g args (start0 G f a)) = true) (hargs : LRel (startR G V) args args') : ∀ w, Lib.Utf8Tabs f a w → CallsU P g ⟨args'⟩ w (.bool true) := by
  rw [goF_eq] at hrun
  exact true_of_runK hm hK hf ha hne hrun hargs
end
end Go.Proofs.YtdhkebolenbpiaaGreatDoor.X

namespace Go.Proofs.YtdhkebolenbpiaaGreatDoor.X
open Go.RowKit

/-! ### More variables that are known at the start -/
section
variable {P : Program} {G V : Nat} {w : World}
noncomputable def addG (s : St) (g : Nat) (cs : List Value) : St := { heap := s.heap.set g (.tab cs), next := s.next }
/-- A variable whose cells are known. -/
theorem add_tab {s : St} (h : WRel P ⟨G, w.heap.size, w, V, fun _ => False⟩ (startR G V) s w) {g : Nat} {cs : List Value} (hg : g + 1 < G) (hl : 0 < cs.length)
    (hc : ∀ (j : Nat) (v : Value), cs[j]? = some v → ∃ v', w.cell? ⟨g, j, none⟩ = some v' ∧ VRel (startR G V) v v') : WRel P ⟨G, w.heap.size, w, V, fun _ => False⟩ (startR G V) (addG s g cs) w := by
  have hget : ∀ i, (addG s g cs).heap.get i = if i = g then some (.tab cs) else s.heap.get i := fun i => by unfold addG; rw [Tr.get_set]
  have hob : ∃ o', w.heap[g]? = some o' ∧ ORel P (startR G V) ⟨g, 0, 0⟩ (.tab cs) o' := by
    obtain ⟨_, h0, _⟩ := hc 0 cs[0] (List.getElem?_eq_getElem hl)
    unfold World.cell? at h0
    dsimp only at h0
    cases ho : w.heap[g]? with
    | none => rw [ho] at h0; cases h0
    | some o =>
      cases o with
      | cells c e fz =>
        refine ⟨_, rfl, c, e, fz, rfl, fun j v hj => ?_⟩
        obtain ⟨v', h1, h2⟩ := hc j v hj
        refine ⟨v', ?_, h2⟩
        unfold World.cell? at h1
        rw [ho] at h1
        simpa using h1
      | _ => rw [ho] at h0; cases h0
  have hblk : ∀ i l, startR G V i = some l → l.blk = i := fun i l hi => by
    unfold startR at hi
    split at hi
    · injection hi with hi; subst hi; rfl
    · cases hi
  refine ⟨fun i o l hi hd hl => ?_, fun i j o o' l l' hne hi hd hj hd' hl hl' => ?_, h.dom, fun i hi => ?_, h.low, h.glob, h.base, h.size, h.below, fun _ _ _ _ _ _ _ h => h, fun _ h => h.elim⟩
  · rw [hget] at hi
    split at hi
    · rename_i he
      subst he
      injection hi with hi
      subst hi
      have : startR G V i = some ⟨i, 0, 0⟩ := by
        unfold startR
        rw [if_pos (by omega), if_neg (by omega)]
      rw [this] at hl
      injection hl with hl
      subst hl
      exact hob
    · exact h.heap i o l hi hd hl
  · rw [hblk i l hl, hblk j l' hl']; exact hne
  · have hb : G ≤ s.next := h.base
    have hi : s.next ≤ i := hi
    rw [hget, if_neg (by omega)]
    exact h.fresh i hi
/-- A variable whose block is known as it is. -/
noncomputable def addO (s : St) (g : Nat) (o : Obj) : St := { heap := s.heap.set g (.obj o), next := s.next }
theorem add_obj {s : St} (h : WRel P ⟨G, w.heap.size, w, V, fun _ => False⟩ (startR G V) s w) {g : Nat} {c : Array Value} {e e' : TypeId} {fz fz' : Nat × Nat} (hg : g + 1 < G) (ho : w.heap[g]? = some (.cells c e' fz')) :
    WRel P ⟨G, w.heap.size, w, V, fun _ => False⟩ (startR G V) (addO s g (.cells c e fz)) w := by
  have hget : ∀ i, (addO s g (.cells c e fz)).heap.get i = if i = g then some (.obj (.cells c e fz)) else s.heap.get i := fun i => by unfold addO; rw [Tr.get_set]
  have hblk : ∀ i l, startR G V i = some l → l.blk = i := fun i l hi => by
    unfold startR at hi
    split at hi
    · injection hi with hi; subst hi; rfl
    · cases hi
  refine ⟨fun i o l hi hd hl => ?_, fun i j o o' l l' hne hi hd hj hd' hl hl' => ?_, h.dom, fun i hi => ?_, h.low, h.glob, h.base, h.size, h.below, fun _ _ _ _ _ _ _ h => h, fun _ h => h.elim⟩
  · rw [hget] at hi
    split at hi
    · rename_i he
      subst he
      injection hi with hi
      subst hi
      have : startR G V i = some ⟨i, 0, 0⟩ := by
        unfold startR
        rw [if_pos (by omega), if_neg (by omega)]
      rw [this] at hl
      injection hl with hl
      subst hl
      exact ⟨_, ho, rfl, e', fz', rfl⟩
    · exact h.heap i o l hi hd hl
  · rw [hblk i l hl, hblk j l' hl']; exact hne
  · have hb : G ≤ s.next := h.base
    have hi : s.next ≤ i := hi
    rw [hget, if_neg (by omega)]
    exact h.fresh i hi
/-- A closed call from any start, by the quick runner. -/
theorem true_of_runS (hm : P.follows .mixedOrders = true) {K : FuncId → List Value → St → Option (Value × St)} (hK : Known P G V K) {n : Nat} {s : St} {g : FuncId} {args args' : List Value}
    (hrun : okTrue ((goF P G K n).call g args s) = true) (hargs : LRel (startR G V) args args') {w : World} (hw : WRel P ⟨G, w.heap.size, w, V, fun _ => False⟩ (startR G V) s w) : CallsU P g ⟨args'⟩ w (.bool true) := by
  rw [goF_eq] at hrun
  obtain ⟨s2, hr⟩ := okTrue_ok hrun
  exact runU_of_goK (draw_ok hm G) hK hr hw hargs rfl
end
end Go.Proofs.YtdhkebolenbpiaaGreatDoor.X

namespace Go.Proofs.YtdhkebolenbpiaaGreatDoor.X
open Go.RowKit

/-! ### Letters, short texts of ASCII, check sums: known -/
def byteLike : Value → Bool
  | .chan none => true
  | .int .u8 (.ofNat x) => Nat.ble (Nat.succ x) 256
  | .float .f32 c => decide (rK c = .u8) && Nat.ble (rHi c) 255
  | .complex .f64 _ n => isFld n && (decide (nK n = .u8) && Nat.ble (nHi n) 255)
  | _ => false
noncomputable def bytesLike (l : List Value) : Bool := List.rec (motive := fun _ => Bool) true (fun v _ b => byteLike v && b) l
noncomputable def KN (G fL fV fS : Nat) (g : FuncId) (args : List Value) (s : St) : Option (Value × St) :=
  bif Nat.beq g fL then
    match args with
    | [.int .i64 (.ofNat n), .complex .f32 i z] => bif (Nat.ble n 7 && Nat.beq (Nat.succ i) G) && Nat.beq (sOff z) 0 then some (bif Nat.beq n 0 then .string ⟨⟨[]⟩⟩ else .complex .f64 i n, s) else none
    | _ => none
  else bif Nat.beq g fV then
    match args with
    | [.complex .f64 _ n] => bif Nat.ble n 8 then some (.bool true, s) else none
    | _ => none
  else bif Nat.beq g fS then
    match args with
    | [.slice (some a) n _] =>
      match getCells s a with
      | some cs =>
        let l := takeL n (dropL a.off cs)
        bif (Nat.beq (lenL l) n && Nat.ble n 1000000) && bytesLike l then some (.chan (some 0), s) else none
      | none => none
    | _ => none
  else none
section
variable {P : Program} {G V : Nat} {b : Base} {ρ : Ren} {s : St} {w : World}
def LetC (P : Program) (f : FuncId) : Prop := ∀ (n : Nat) (k : Int) (w : World), n ≤ 7 → -9223372036854775808 ≤ k ∧ k ≤ 9223372036854775807 → CallsU P f #[.int .i64 n, .int .i64 k] w (.string (letS n k))
def ValC (P : Program) (f : FuncId) : Prop := ∀ (s : ByteArray) (w : World), s.size ≤ 8 → (∀ x ∈ s.data.toList, x.toNat < 128) → CallsU P f #[.string s] w (.bool true)
def SumC (P : Program) (f : FuncId) : Prop := ∀ (bk o n c : Nat) (w : World), n ≤ 140737488355328 → (∀ j, j < n → ∃ x : Nat, x < 256 ∧ w.cell? ⟨bk, o + j, none⟩ = some (.int .u8 x)) →
  Calls P f #[.slice (some ⟨bk, o, none⟩) n c] w fun e w' => (∃ x : Nat, x < 4294967296 ∧ e = .returned (.int .u32 x)) ∧ Below w.heap.size w w'
theorem known_rel {f : FuncId} {args' : List Value} {v v' : Value} (hw : WRel P b ρ s w) (hv : VRel ρ v v') (h : CallsU P f ⟨args'⟩ w v') (cs : List Frame) :
    ∃ ρ' v' w', Ok P b ρ s ρ' s w' ∧ VRel ρ' v v' ∧ ∃ fr, Steps P (lone (Frame.enter P f ⟨args'⟩ .normal) cs w) (lone fr cs w') ∧ fr.fn = f ∧ fr.leaving P w' (.returned v') := by
  obtain ⟨_, w', fr, ⟨rfl, g1⟩, g2, g3, g4⟩ := h cs
  exact ⟨ρ, v', w', ⟨fun _ _ => rfl, Nat.le_refl _, fun _ _ _ => rfl, hw.grow g1⟩, hv, fr, g2, g3, g4⟩
theorem letS_zero (k : Int) : letS 0 k = ⟨⟨[]⟩⟩ := rfl
theorem letAt_lt (i : Nat) (k : Int) : letAt i k < 128 := by
  unfold letAt
  omega
theorem letS_ascii (n : Nat) (k : Int) : ∀ x ∈ (letS n k).data.toList, x.toNat < 128 := fun x hx => by
  obtain ⟨i, _, rfl⟩ := List.mem_map.1 hx
  have := letAt_lt i k
  rw [UInt8.toNat_ofNat']
  omega
theorem bytesLike_at : ∀ {l : List Value}, bytesLike l = true → ∀ (j : Nat) v, l[j]? = some v → byteLike v = true
  | [], _, j, v, h => by simp at h
  | x :: l, hb, j, v, h => by
    have hb' : (byteLike x && bytesLike l) = true := hb
    simp only [Bool.and_eq_true] at hb'
    cases j with
    | zero => injection h with h; subst h; exact hb'.1
    | succ j => exact bytesLike_at hb'.2 j v h
theorem byteLike_rel {v v' : Value} (h : byteLike v = true) (hv : VRel ρ v v') : ∃ x : Nat, x < 256 ∧ v' = .int .u8 x := by
  unfold byteLike at h
  split at h
  · cases hv; exact ⟨_, by assumption, rfl⟩
  · cases hv
    exact ⟨_, Nat.le_of_ble_eq_true h, rfl⟩
  · cases hv
    rename_i x hx
    simp only [Bool.and_eq_true, decide_eq_true_eq] at h
    have := Nat.le_of_ble_eq_true h.2
    exact ⟨x, by omega, by rw [h.1]⟩
  · rename_i i n
    cases hv
    rename_i l hl hv
    simp only [Bool.and_eq_true, decide_eq_true_eq] at h
    have h3 := Nat.le_of_ble_eq_true h.2.2
    obtain ⟨_, _, g⟩ := isFld_num h.1
    have g2 := clamp_in g (fldQ (nQ n) l.sh / 2 ^ nSh n % 2 ^ nW n)
    have e := sv_fld l.sh h.1
    rw [h.2.1] at e
    exact ⟨_, by omega, hv.trans e⟩
  · cases h
theorem known_KN {fL fV fS : Nat} (hV : -9223372036854775808 ≤ symI V ∧ symI V ≤ 9223372036854775807) (h1 : LetC P fL) (h2 : ValC P fV) (h3 : SumC P fS) : Known P G V (KN G fL fV fS) := by
  intro g args s v s2 hk b ρ w args' hbG hw hl cs
  injection hbG with hG hVV
  subst hG; subst hVV
  unfold KN at hk
  cases hg : Nat.beq g fL with
  | true =>
    rw [hg] at hk
    have := Nat.eq_of_beq_eq_true hg
    subst this
    simp only [cond_true] at hk
    split at hk
    · rename_i n i bb
      obtain ⟨g1, hk⟩ := bif_some hk
      simp only [Bool.and_eq_true] at g1
      have hn := Nat.le_of_ble_eq_true g1.1.1
      have hi : i + 1 = b.G := Nat.eq_of_beq_eq_true g1.1.2
      have hz0 := Nat.eq_of_beq_eq_true g1.2
      injection hk with hk
      injection hk with e1 e2
      subst e1; subst e2
      cases hl with
      | cons _ v1 _ _ hv1 ht =>
      cases ht with
      | cons _ v2 _ _ hv2 ht =>
      cases ht
      cases hv1
      cases hv2 with
      | sym _ _ l xx hlo hxx =>
        have hx1 := hxx.1
        rw [hz0] at hx1
        simp only [Int.natCast_zero, Int.add_zero] at hx1
        subst hx1
        have hgl := hw.glob i (by omega)
        rw [hlo, if_pos hi] at hgl
        injection hgl with hgl
        subst hgl
        have q : VRel ρ (.complex .f64 i n) (.string (letS n (symI b.val))) := VRel.sstr i n ⟨i, b.val, 0⟩ _ hlo (sv_old b.val (by show n < 1099511627776; omega)).symm
        have q0 := h1 n (symI b.val) w hn hV
        generalize symI b.val = kk at q q0
        clear hV
        refine known_rel (v' := .string (letS n kk)) hw ?_ q0 cs
        cases hz : Nat.beq n 0 with
        | true =>
          have := Nat.eq_of_beq_eq_true hz
          subst this
          rw [letS_zero]
          exact .string _
        | false => exact q
    · cases hk
  | false =>
  rw [hg] at hk
  simp only [cond_false] at hk
  cases hg2 : Nat.beq g fV with
  | true =>
    rw [hg2] at hk
    have := Nat.eq_of_beq_eq_true hg2
    subst this
    simp only [cond_true] at hk
    split at hk
    · rename_i i n
      obtain ⟨g1, hk⟩ := bif_some hk
      have hn := Nat.le_of_ble_eq_true g1
      injection hk with hk
      injection hk with e1 e2
      subst e1; subst e2
      cases hl with
      | cons _ v1 _ _ hv1 ht =>
      cases ht
      cases hv1 with
      | sstr _ _ l _ hlo hv =>
        rw [sv_old l.sh (show n < 1099511627776 by omega)] at hv
        subst hv
        exact known_rel hw (.bool true) (h2 _ w (by rw [letS_size]; exact hn) (letS_ascii _ _)) cs
    · cases hk
  | false =>
  rw [hg2] at hk
  simp only [cond_false] at hk
  cases hg3 : Nat.beq g fS with
  | false => rw [hg3] at hk; cases hk
  | true =>
    rw [hg3] at hk
    have := Nat.eq_of_beq_eq_true hg3
    subst this
    simp only [cond_true] at hk
    split at hk
    · rename_i a n c
      cases hc : getCells s a with
      | none => rw [hc] at hk; cases hk
      | some cs' =>
        rw [hc] at hk
        dsimp only at hk
        obtain ⟨g1, hk⟩ := bif_some hk
        simp only [Bool.and_eq_true] at g1
        obtain ⟨⟨g1, g2⟩, g3⟩ := g1
        have hn := Nat.eq_of_beq_eq_true g1
        have hn2 := Nat.le_of_ble_eq_true g2
        rw [lenL_eq, takeL_eq, dropL_eq] at hn
        rw [takeL_eq, dropL_eq] at g3
        injection hk with hk
        injection hk with e1 e2
        subst e1; subst e2
        cases hl with
        | cons _ v1 _ _ hv1 ht =>
        cases ht
        cases hv1 with
        | sliceE a a' c c' hsp =>
          exfalso
          unfold getCells at hc
          split at hc
          · split at hc
            · rename_i hs; rw [hs] at hsp; cases hsp
            · cases hc
          · split at hc
            · rename_i hs; rw [hs] at hsp; cases hsp
            · cases hc
          · cases hc
        | slice a a' n c c' ha hcr =>
          obtain ⟨k, cc, e, fz, rfl, hblk, hcell⟩ := hw.cells hc ha
          have key := h3 k.blk (k.sh + a.off) n c' w (by omega) (fun j hj => by
            obtain ⟨v, hv⟩ : ∃ v, ((cs'.drop a.off).take n)[j]? = some v := ⟨_, List.getElem?_eq_getElem (by omega)⟩
            have hbl := bytesLike_at g3 j v hv
            rw [List.getElem?_take, if_pos hj, List.getElem?_drop] at hv
            obtain ⟨v', q1, q2⟩ := hcell _ _ hv
            obtain ⟨x, hx, rfl⟩ := byteLike_rel hbl q2
            refine ⟨x, hx, ?_⟩
            unfold World.cell?
            dsimp only
            rw [hblk]
            dsimp only
            rw [show k.sh + a.off + j = k.sh + (a.off + j) by omega]
            exact q1)
          obtain ⟨_, w', fr, ⟨⟨x, hx, rfl⟩, q1⟩, q2, q3, q4⟩ := key cs
          exact ⟨ρ, .int .u32 x, w', ⟨fun _ _ => rfl, Nat.le_refl _, fun _ _ _ => rfl, hw.grow q1⟩, .any32 x hx, fr, q2, q3, q4⟩
    · cases hk
end
end Go.Proofs.YtdhkebolenbpiaaGreatDoor.X

namespace Go.Proofs.YtdhkebolenbpiaaGreatDoor.X
open Go.RowKit

/-! ### Calls that were run before: known at the heap where they were run -/
noncomputable def samesF (l : List Value) : List Value → Bool :=
  List.rec (motive := fun _ => List Value → Bool) (fun m => List.rec (motive := fun _ => Bool) true (fun _ _ _ => false) m)
    (fun v _ go m => List.rec (motive := fun _ => Bool) false (fun w m _ => iff' (sameF v w) (go m) false) m) l
theorem samesF_eq : ∀ {l m : List Value}, samesF l m = true → l = m
  | [], [], _ => rfl
  | [], _ :: _, h => by cases h
  | _ :: _, [], h => by cases h
  | v :: l, w :: m, h => by
    have h' : iff' (sameF v w) (samesF l m) false = true := h
    rw [iff_eq] at h'
    cases hv : sameF v w with
    | false => rw [hv] at h'; cases h'
    | true =>
      rw [hv] at h'
      rw [sameF_eq] at hv
      rw [same_eq hv, samesF_eq h']
noncomputable def sameEs (l : List MapEntry) : List MapEntry → Bool :=
  List.rec (motive := fun _ => List MapEntry → Bool) (fun m => List.rec (motive := fun _ => Bool) true (fun _ _ _ => false) m)
    (fun v _ go m => List.rec (motive := fun _ => Bool) false (fun w m _ => iff' (sameF v.key w.key && (sameF v.val w.val && Nat.beq v.born w.born)) (go m) false) m) l
theorem sameEs_eq : ∀ {l m : List MapEntry}, sameEs l m = true → l = m
  | [], [], _ => rfl
  | [], _ :: _, h => by cases h
  | _ :: _, [], h => by cases h
  | v :: l, w :: m, h => by
    have h' : iff' (sameF v.key w.key && (sameF v.val w.val && Nat.beq v.born w.born)) (sameEs l m) false = true := h
    rw [iff_eq] at h'
    cases hv : (sameF v.key w.key && (sameF v.val w.val && Nat.beq v.born w.born)) with
    | false => rw [hv] at h'; cases h'
    | true =>
      rw [hv] at h'
      simp only [Bool.and_eq_true, sameF_eq] at hv
      have e1 := same_eq hv.1
      have e2 := same_eq hv.2.1
      have e3 := Nat.eq_of_beq_eq_true hv.2.2
      obtain ⟨a, c, d⟩ := v
      obtain ⟨a', c', d'⟩ := w
      dsimp only at e1 e2 e3
      subst e1; subst e2; subst e3
      rw [sameEs_eq h']
noncomputable def sameAO (a b : AO) : Bool :=
  match a, b with
  | .row x e l, .row y f m => (Nat.beq e f && (l == m)) && samesF x y
  | .tab x, .tab y => samesF x y
  | .obj (.map ⟨x⟩ c), .obj (.map ⟨y⟩ d) => Nat.beq c d && sameEs x y
  | .dead, .dead => true
  | _, _ => false
theorem sameAO_eq {a b : AO} (h : sameAO a b = true) : a = b := by
  unfold sameAO at h
  split at h
  · simp only [Bool.and_eq_true, beq_iff_eq] at h
    rw [Nat.eq_of_beq_eq_true h.1.1, h.1.2, samesF_eq h.2]
  · rw [samesF_eq h]
  · simp only [Bool.and_eq_true] at h
    rw [Nat.eq_of_beq_eq_true h.1, sameEs_eq h.2]
  · rfl
  · cases h
noncomputable def sameO (o : Option AO) (b : AO) : Bool := Option.rec (motive := fun _ => Bool) false (fun a => sameAO a b) o
theorem sameO_eq {o : Option AO} {b : AO} (h : sameO o b = true) : o = some b := by
  cases o with
  | none => cases h
  | some a => rw [sameAO_eq h]
abbrev Ents := List (Nat × AO)
noncomputable def setAll (l : Ents) (t : Tr AO) : Tr AO := List.rec (motive := fun _ => Tr AO) t (fun p _ r => (setB p.1).use p.2 r) l
noncomputable def subAll (l : Ents) (t : Tr AO) : Bool := List.rec (motive := fun _ => Bool) true (fun p _ r => iff' (sameO ((getB p.1).use t) p.2) r false) l
noncomputable def hasId (l : Ents) (i : Nat) : Bool := List.rec (motive := fun _ => Bool) false (fun p _ r => iff' (Nat.beq p.1 i) true r) l
noncomputable def restAll (d l : Ents) (t : Tr AO) : Bool := List.rec (motive := fun _ => Bool) true (fun p _ r => iff' (iff' (hasId d p.1) true (sameO ((getB p.1).use t) p.2)) r false) l
def isDead : AO → Bool | .dead => true | _ => false
noncomputable def wfL (n : Nat) (l : Ents) : Bool := List.rec (motive := fun _ => Bool) true (fun p _ r => iff' (Nat.blt p.1 n && !isDead p.2) r false) l
noncomputable def geL (g : Nat) (l : Ents) : Bool := List.rec (motive := fun _ => Bool) true (fun p _ r => iff' (Nat.ble g p.1) r false) l

theorem setAll_cons (p : Nat × AO) (l : Ents) (t : Tr AO) : setAll (p :: l) t = (setAll l t).set p.1 p.2 := setB_eq _ _ _
theorem setAll_get (t : Tr AO) (i : Nat) : ∀ l : Ents, (hasId l i = false ∧ (setAll l t).get i = t.get i) ∨ (∃ o, (i, o) ∈ l ∧ (setAll l t).get i = some o)
  | [] => .inl ⟨rfl, rfl⟩
  | p :: l => by
    rw [setAll_cons, Tr.get_set]
    have hh : hasId (p :: l) i = iff' (Nat.beq p.1 i) true (hasId l i) := rfl
    by_cases he : i = p.1
    · subst he
      rw [if_pos rfl]
      exact .inr ⟨p.2, by simp, rfl⟩
    · rw [if_neg he]
      have hb : Nat.beq p.1 i = false := Bool.eq_false_iff.2 fun e => he (Nat.eq_of_beq_eq_true e).symm
      rw [hh, hb]
      rcases setAll_get t i l with h | ⟨o, h1, h2⟩
      · exact .inl h
      · exact .inr ⟨o, by simp [h1], h2⟩
theorem subAll_get {t : Tr AO} : ∀ {l : Ents}, subAll l t = true → ∀ p ∈ l, t.get p.1 = some p.2
  | [], _, _, h => by cases h
  | q :: l, h, p, hp => by
    have h' : iff' (sameO ((getB q.1).use t) q.2) (subAll l t) false = true := h
    rw [iff_eq, getB_eq] at h'
    cases hv : sameO (t.get q.1) q.2 with
    | false => rw [hv] at h'; cases h'
    | true =>
      rw [hv] at h'
      rcases List.mem_cons.1 hp with rfl | hp
      · exact sameO_eq hv
      · exact subAll_get h' p hp
theorem restAll_get {d : Ents} {t : Tr AO} : ∀ {l : Ents}, restAll d l t = true → ∀ p ∈ l, hasId d p.1 = false → t.get p.1 = some p.2
  | [], _, _, h, _ => by cases h
  | q :: l, h, p, hp, hd => by
    have h' : iff' (iff' (hasId d q.1) true (sameO ((getB q.1).use t) q.2)) (restAll d l t) false = true := h
    rw [iff_eq, iff_eq, getB_eq] at h'
    rcases List.mem_cons.1 hp with rfl | hp
    · rw [hd] at h'
      simp only [cond_false] at h'
      cases hv : sameO (t.get p.1) p.2 with
      | false => rw [hv] at h'; cases h'
      | true => exact sameO_eq hv
    · refine restAll_get ?_ p hp hd
      revert h'
      cases (bif hasId d q.1 then true else sameO (t.get q.1) q.2) with
      | false => intro h'; cases h'
      | true => exact id
theorem wfL_mem {n : Nat} : ∀ {l : Ents}, wfL n l = true → ∀ p ∈ l, p.1 < n ∧ p.2 ≠ .dead
  | [], _, _, h => by cases h
  | q :: l, h, p, hp => by
    have h' : iff' (Nat.blt q.1 n && !isDead q.2) (wfL n l) false = true := h
    rw [iff_eq] at h'
    cases hv : (Nat.blt q.1 n && !isDead q.2) with
    | false => rw [hv] at h'; cases h'
    | true =>
      rw [hv] at h'
      rcases List.mem_cons.1 hp with rfl | hp
      · rw [Bool.and_eq_true] at hv
        exact ⟨Nat.le_of_ble_eq_true hv.1, fun e => by rw [e] at hv; cases hv.2⟩
      · exact wfL_mem h' p hp
theorem geL_mem {g : Nat} : ∀ {l : Ents}, geL g l = true → ∀ p ∈ l, g ≤ p.1
  | [], _, _, h => by cases h
  | q :: l, h, p, hp => by
    have h' : iff' (Nat.ble g q.1) (geL g l) false = true := h
    rw [iff_eq] at h'
    cases hv : Nat.ble g q.1 with
    | false => rw [hv] at h'; cases h'
    | true =>
      rw [hv] at h'
      rcases List.mem_cons.1 hp with rfl | hp
      · exact Nat.le_of_ble_eq_true hv
      · exact geL_mem h' p hp

structure Seg where
  f : FuncId
  args : List Value
  st : Ents
  next : Nat
  v : Value
  diff : Ents
  next2 : Nat
noncomputable def Seg.start (g : Seg) : St := { heap := setAll g.st .nil, next := g.next }
noncomputable def Seg.wf (G : Nat) (g : Seg) : Bool := wfL g.next g.st && geL G g.diff
noncomputable def Seg.ends (g : Seg) : Rs Value → Bool
  | .ok v s2 => (sameF v g.v && Nat.beq s2.next g.next2) && (subAll g.diff s2.heap && restAll g.diff g.st s2.heap)
  | .no .. => false
noncomputable def Seg.at_ (g : Seg) (args : List Value) (s : St) : Bool := iff' (Nat.beq s.next g.next) (iff' (samesF args g.args) (subAll g.st s.heap) false) false
noncomputable def KS (g : Seg) (f : FuncId) (args : List Value) (s : St) : Option (Value × St) :=
  iff' (Nat.beq f g.f) (iff' (g.at_ args s) (some (g.v, { heap := setAll g.diff s.heap, next := g.next2 })) none) none

section
variable {P : Program} {G V : Nat} {K : FuncId → List Value → St → Option (Value × St)}
theorem start_get (g : Seg) (i : Nat) (o : AO) (h : g.start.heap.get i = some o) : (i, o) ∈ g.st := by
  rcases setAll_get .nil i g.st with ⟨_, h2⟩ | ⟨o', h1, h2⟩
  · have : g.start.heap.get i = none := h2.trans (Tr.get_nil i)
    rw [this] at h; cases h
  · have : g.start.heap.get i = some o' := h2
    rw [this] at h; injection h with h; subst h; exact h1
theorem known_seg (hD : DrawOk P G) (hK : Known P G V K) {n : Nat} (g : Seg) (hwf : g.wf G = true) (hrun : g.ends ((goK P G K n).call g.f g.args g.start) = true) : Known P G V (KS g) := by
  intro f args s v s2 hk b ρ w args' hbG hw hl cs
  unfold KS at hk
  rw [iff_eq, iff_eq] at hk
  cases h1 : Nat.beq f g.f with
  | false => rw [h1] at hk; cases hk
  | true =>
  rw [h1] at hk
  cases h2 : g.at_ args s with
  | false => rw [h2] at hk; cases hk
  | true =>
  rw [h2] at hk
  injection hk with hk
  injection hk with e1 e2
  subst e1; subst e2
  have := Nat.eq_of_beq_eq_true h1
  subst this
  unfold Seg.at_ at h2
  rw [iff_eq, iff_eq] at h2
  cases h3 : Nat.beq s.next g.next with
  | false => rw [h3] at h2; cases h2
  | true =>
  rw [h3] at h2
  cases h4 : samesF args g.args with
  | false => rw [h4] at h2; cases h2
  | true =>
  rw [h4] at h2
  have hsub : subAll g.st s.heap = true := h2
  have hargs := samesF_eq h4
  subst hargs
  have hnext := Nat.eq_of_beq_eq_true h3
  unfold Seg.wf at hwf
  rw [Bool.and_eq_true] at hwf
  have sget : ∀ i o, g.start.heap.get i = some o → s.heap.get i = some o := fun i o h => subAll_get hsub _ (start_get g i o h)
  have slt : ∀ i o, g.start.heap.get i = some o → i < s.next ∧ o ≠ .dead := fun i o h => by
    have := wfL_mem hwf.1 _ (start_get g i o h)
    exact ⟨by rw [hnext]; exact this.1, this.2⟩
  obtain ⟨v, S2, hcall⟩ : ∃ v S2, (goK P G K n).call g.f g.args g.start = .ok v S2 := by
    cases hc : (goK P G K n).call g.f g.args g.start with
    | ok v S2 => exact ⟨v, S2, rfl⟩
    | no a c => rw [hc] at hrun; cases hrun
  rw [hcall] at hrun
  simp only [Seg.ends, Bool.and_eq_true] at hrun
  obtain ⟨⟨hv, hn2⟩, hdiff, hrest⟩ := hrun
  rw [sameF_eq] at hv
  have hv := same_eq hv
  subst hv
  have hn2 := Nat.eq_of_beq_eq_true hn2
  -- the machine there, with all else kept
  let b' : Base := ⟨b.G, b.B, w, b.val, fun k => b.prot k ∨ ∃ i o l, s.heap.get i = some o ∧ o ≠ .dead ∧ ρ i = some l ∧ l.blk = k ∧ g.start.heap.get i = none⟩
  have hwS : WRel P b' ρ g.start w := by
    refine ⟨fun i o l hi hd hl => hw.heap i o l (sget i o hi) hd hl, fun i j o o' l l' hne hi hd hj hd' hl hl' => hw.inj i j o o' l l' hne (sget i o hi) hd (sget j o' hj) hd' hl hl', fun i l hl => ?_, fun i hi => ?_, hw.low, hw.glob, ?_, hw.size, .refl _ _, ?_, ?_⟩
    · have := hw.dom i l hl
      rw [hnext] at this
      exact this
    · have hi : g.next ≤ i := hi
      cases hc : g.start.heap.get i with
      | none => rfl
      | some o => have := (slt i o hc).1; omega
    · have := hw.base
      rw [hnext] at this
      exact this
    · intro i o l hG hi hd hl hp
      rcases hp with hp | ⟨j, o', l', hj, hd', hl', hb, hn⟩
      · exact hw.apart i o l hG (sget i o hi) hd hl hp
      · have hne : i ≠ j := by rintro rfl; rw [hn] at hi; cases hi
        exact hw.inj i j o o' l l' hne (sget i o hi) hd hj hd' hl hl' hb.symm
    · intro k hp
      refine ⟨?_, rfl⟩
      rcases hp with hp | ⟨j, o', l', hj, hd', hl', hb, hn⟩
      · exact hw.kept_lt hp
      · obtain ⟨x, hx, _⟩ := hw.heap j o' l' hj hd' hl'
        rw [← hb]
        exact (Array.getElem?_eq_some_iff.1 hx).1
  obtain ⟨ρ', v', w', hok, hvr, fr, hst, hfn, hlv⟩ := (goK_ok hD hK n).call hcall (b := b') hbG hwS hl cs
  refine ⟨ρ', v', w', ?_, hvr, fr, hst, hfn, hlv⟩
  have hG : b.G = G := by injection hbG
  have hle := hok.le hwS
  have hnx : g.start.next = s.next := hnext.symm
  -- what lies behind
  have key : ∀ i o, (setAll g.diff s.heap).get i = some o → S2.heap.get i = some o ∨ (hasId g.diff i = false ∧ s.heap.get i = some o ∧ g.start.heap.get i = none) := fun i o hi => by
    rcases setAll_get s.heap i g.diff with ⟨q1, q2⟩ | ⟨o', q1, q2⟩
    · rw [q2] at hi
      cases hc : g.start.heap.get i with
      | none => exact .inr ⟨q1, hi, rfl⟩
      | some o2 =>
        have := sget i o2 hc
        rw [hi] at this
        injection this with this
        subst this
        exact .inl (restAll_get hrest _ (start_get g i o hc) q1)
    · rw [q2] at hi
      injection hi with hi
      subst hi
      exact .inl (subAll_get hdiff _ q1)
  have hgarb : ∀ i o l, s.heap.get i = some o → o ≠ .dead → g.start.heap.get i = none → ρ' i = some l → ρ i = some l ∧ b'.prot l.blk := fun i o l hi hd hn hl => by
    have hlt : i < s.next := by
      rcases Nat.lt_or_ge i s.next with h | h
      · exact h
      · have := hw.fresh i h; rw [this] at hi; cases hi
    have hr : ρ i = some l := (hok.ext i (by rw [hnx]; exact hlt)).symm.trans hl
    exact ⟨hr, .inr ⟨i, o, l, hi, hd, hr, rfl, hn⟩⟩
  have hdisj : ∀ i j o o' l l', S2.heap.get i = some o → o ≠ .dead → s.heap.get j = some o' → o' ≠ .dead → g.start.heap.get j = none → ρ' i = some l → ρ' j = some l' → i ≠ j → (setAll g.diff s.heap).get i = some o → l.blk ≠ l'.blk := fun i j o o' l l' hi hd hj hd' hn hl hl' hne hs2 => by
    obtain ⟨r1, r2⟩ := hgarb j o' l' hj hd' hn hl'
    by_cases hGi : b.G ≤ i
    · intro e
      exact hok.rel.apart i o l hGi hi hd hl (by rw [e]; exact r2)
    · rcases setAll_get s.heap i g.diff with ⟨q1, q2⟩ | ⟨o2, q1, q2⟩
      · rw [q2] at hs2
        have hbase := hw.base
        have hri : ρ i = some l := (hok.ext i (by rw [hnx]; omega)).symm.trans hl
        exact hw.inj i j o o' l l' hne hs2 hd hj hd' hri r1
      · have := geL_mem hwf.2 _ q1
        dsimp only at this
        omega
  have hext : ∀ i, i < s.next → ρ' i = ρ i := fun i hi => hok.ext i (by rw [hnx]; exact hi)
  have hS2n : s.next ≤ S2.next := by have := hok.next; rw [hnx] at this; exact this
  refine ⟨hext, by dsimp only; omega, fun i hi hn => ?_, ?_⟩
  · -- pend
    have hp := hok.pend i (by rw [hnx]; exact hi) hn
    dsimp only
    rcases setAll_get s.heap i g.diff with ⟨_, q2⟩ | ⟨o, q1, q2⟩
    · exact q2
    · rw [q2]
      have h5 := subAll_get hdiff _ q1
      dsimp only at h5
      rw [h5] at hp
      exact (sget i o hp.symm).symm
  · refine ⟨fun i o l hi hd hl => ?_, fun i j o o' l l' hne hi hd hj hd' hl hl' => ?_, fun i l hl => ?_, fun i hi => ?_, fun i l hGi hl => ?_, fun q hq => ?_, ?_, ?_, ?_, fun i o l hGi hi hd hl => ?_, fun k hk => ?_⟩
    · rcases key i o hi with h | ⟨_, h, hn⟩
      · exact hok.rel.heap i o l h hd hl
      · obtain ⟨r1, r2⟩ := hgarb i o l h hd hn hl
        obtain ⟨x, hx, hr⟩ := hw.heap i o l h hd r1
        exact ⟨x, (hok.rel.kept _ r2).2.trans hx, hr.mono hle⟩
    · rcases key i o hi with h | ⟨_, h, hn⟩
      · rcases key j o' hj with h' | ⟨_, h', hn'⟩
        · exact hok.rel.inj i j o o' l l' hne h hd h' hd' hl hl'
        · exact hdisj i j o o' l l' h hd h' hd' hn' hl hl' hne hi
      · rcases key j o' hj with h' | ⟨_, h', hn'⟩
        · exact fun e => hdisj j i o' o l' l h' hd' h hd hn hl' hl (fun e => hne e.symm) hj e.symm
        · exact hw.inj i j o o' l l' hne h hd h' hd' (hgarb i o l h hd hn hl).1 (hgarb j o' l' h' hd' hn' hl').1
    · have := hok.rel.dom i l hl
      rw [← hn2]; exact this
    · have hi : g.next2 ≤ i := hi
      dsimp only
      rcases setAll_get s.heap i g.diff with ⟨_, q2⟩ | ⟨o, q1, q2⟩
      · rw [q2]; exact hw.fresh i (by omega)
      · have h5 := subAll_get hdiff _ q1
        have h6 := hok.rel.fresh i (by omega)
        dsimp only at h5
        rw [h6] at h5; cases h5
    · exact hok.rel.low i l hGi hl
    · exact hok.rel.glob q hq
    · have := hw.base; dsimp only; omega
    · exact hok.rel.size
    · exact hw.below.trans (hok.rel.below)
    · rcases key i o hi with h | ⟨_, h, hn⟩
      · exact fun hp => hok.rel.apart i o l hGi h hd hl (.inl hp)
      · exact hw.apart i o l hGi h hd (hgarb i o l h hd hn hl).1
    · exact ⟨(hw.kept k hk).1, (hok.rel.kept k (.inl hk)).2.trans (hw.kept k hk).2⟩
theorem known_segF (hm : P.follows .mixedOrders = true) (hK : Known P G V K) {n : Nat} (g : Seg) (hwf : g.wf G = true) (hrun : g.ends ((goF P G K n).call g.f g.args g.start) = true) : Known P G V (KS g) :=
  known_seg (draw_ok hm G) hK g hwf (by rw [← goF_eq]; exact hrun)
/-- Many of these. -/
noncomputable def KL (fs : List FuncId) (gs : List Seg) (f : FuncId) (args : List Value) (s : St) : Option (Value × St) :=
  iff' (fs.any (Nat.beq f)) (List.rec (motive := fun _ => Option (Value × St)) none (fun g _ r => Option.rec (motive := fun _ => Option (Value × St)) r (fun x => some x) (KS g f args s)) gs) none
theorem KL_mem {f : FuncId} {args : List Value} {s : St} {x : Value × St} : ∀ {gs : List Seg}, List.rec (motive := fun _ => Option (Value × St)) none (fun g _ r => Option.rec (motive := fun _ => Option (Value × St)) r (fun x => some x) (KS g f args s)) gs = some x → ∃ g ∈ gs, KS g f args s = some x
  | [], h => by cases h
  | g :: gs, h => by
    have h' : Option.rec (motive := fun _ => Option (Value × St)) (List.rec (motive := fun _ => Option (Value × St)) none (fun g _ r => Option.rec (motive := fun _ => Option (Value × St)) r (fun x => some x) (KS g f args s)) gs) (fun x => some x) (KS g f args s) = some x := h
    cases hg : KS g f args s with
    | some y =>
      rw [hg] at h'
      have h' : some y = some x := h'
      injection h' with h'
      subst h'
      exact ⟨g, by simp, hg⟩
    | none =>
      rw [hg] at h'
      obtain ⟨g', h1, h2⟩ := KL_mem h'
      exact ⟨g', by simp [h1], h2⟩
theorem known_KL {fs : List FuncId} {gs : List Seg} (h : ∀ g ∈ gs, Known P G V (KS g)) : Known P G V (KL fs gs) := by
  intro f args s v s2 hk b ρ w args' hbG hw hl cs
  unfold KL at hk
  rw [iff_eq] at hk
  obtain ⟨_, hk⟩ := bif_some hk
  obtain ⟨g, h1, h2⟩ := KL_mem hk
  exact h g h1 h2 hbG hw hl cs
end

/-! ### Short words for what lies -/
namespace S
def i (n : Nat) : Value := .int .i64 (.ofNat n)
def b (n : Nat) : Value := .int .u8 (.ofNat n)
def tt : Value := .bool true
def ff : Value := .bool false
def s0 : Value := .string ⟨⟨[]⟩⟩
def p0 : Value := .pointer none
def l0 : Value := .slice none 0 0
def m0 : Value := .map none
def p (a o : Nat) : Value := .pointer (some ⟨a, o, none⟩)
def l (a o n c : Nat) : Value := .slice (some ⟨a, o, none⟩) n c
def m (r : Nat) : Value := .map (some r)
noncomputable def sbl (n : Nat) : Nat → List UInt8 := Nat.rec (motive := fun _ => Nat → List UInt8) (fun _ => []) (fun _ go x => UInt8.ofNat (Nat.mod x 256) :: forceN (Nat.div x 256) go) n
noncomputable def sb (n x : Nat) : Value := .string ⟨⟨sbl n x⟩⟩
noncomputable def bz (n : Nat) : Nat → List Value := Nat.rec (motive := fun _ => Nat → List Value) (fun _ => []) (fun _ go x => forceN (Nat.mod x 256) (fun y => .int .u8 (.ofNat y)) :: forceN (Nat.div x 256) go) n
def r (cs : List Value) (e : TypeId) : AO := .row cs e false
def R (cs : List Value) (e : TypeId) : AO := .row cs e true
end S
end Go.Proofs.YtdhkebolenbpiaaGreatDoor.X

namespace Go.Proofs.YtdhkebolenbpiaaGreatDoor.X
open Go.RowKit

/-! ### The same, under other ids -/
section
variable (σ : Nat → Nat)
def renA (a : Addr) : Addr := match a.spot with | none => ⟨σ a.block, a.off, none⟩ | some k => ⟨a.block, a.off, some k⟩
def renF : Fn → Fn
  | .yield l => .yield (σ l)
  | f => f
mutual
def ren : Value → Value
  | .pointer (some a) => .pointer (some (renA σ a))
  | .slice (some a) n c => .slice (some (renA σ a)) n c
  | .map (some r) => .map (some (σ r))
  | .complex k i b => .complex k (σ i) b
  | .func f ⟨a⟩ ⟨b⟩ => .func (renF σ f) ⟨renL a⟩ ⟨renL b⟩
  | .iface t v => .iface t (ren v)
  | .agg ⟨a⟩ => .agg ⟨renL a⟩
  | .tuple ⟨a⟩ => .tuple ⟨renL a⟩
  | v => v
def renL : List Value → List Value
  | [] => []
  | v :: l => ren v :: renL l
end
def renE (e : MapEntry) : MapEntry := { key := ren σ e.key, val := ren σ e.val, born := e.born }
def renO : AO → AO
  | .row cs e l => .row (renL σ cs) e l
  | .tab cs => .tab (renL σ cs)
  | .obj (.map ⟨es⟩ c) => .obj (.map ⟨es.map (renE σ)⟩ c)
  | _ => .dead
end
section
variable {σ : Nat → Nat} {ρ : Ren}
theorem ARel.ren {a a' : Addr} : ARel (fun i => ρ (σ i)) a a' ↔ ARel ρ (renA σ a) a' := by
  obtain ⟨b, o, sp⟩ := a
  cases sp with
  | none => exact Iff.rfl
  | some k => exact Iff.intro (fun h => by cases h.1) (fun h => by cases h.1)
theorem CRel.ren {a : Addr} {n c c' : Nat} (hs : a.spot = none) : CRel (fun i => ρ (σ i)) a n c c' ↔ CRel ρ (renA σ a) n c c' := by
  obtain ⟨b, o, sp⟩ := a
  dsimp only at hs
  subst hs
  exact Iff.rfl
theorem FRel.ren {f f' : Fn} : FRel (fun i => ρ (σ i)) f f' ↔ FRel ρ (renF σ f) f' := by
  cases f <;> exact Iff.rfl
theorem renA_spot (a : Addr) : (renA σ a).spot = a.spot := by
  obtain ⟨b, o, sp⟩ := a
  cases sp <;> rfl
mutual
theorem VRel.renT : ∀ {v v' : Value}, VRel (fun i => ρ (σ i)) v v' → VRel ρ (ren σ v) v'
  | _, _, .bool b => .bool b
  | _, _, .int j n => .int j n
  | _, _, .txt c v h => .txt c v h
  | _, _, .rng c x h => .rng c x h
  | _, _, .string s => .string s
  | _, _, .sym i b l x h hx => .sym (σ i) b l x h hx
  | _, _, .sstr i n l v h hv => .sstr (σ i) n l v h hv
  | _, _, .anyB n h => .anyB n h
  | _, _, .any32 n h => .any32 n h
  | _, _, .anyS r a n c h => .anyS r a n c h
  | _, _, .nilFunc => .nilFunc
  | _, _, .nilIface => .nilIface
  | _, _, .ptrN => .ptrN
  | _, _, .ptr a a' h => .ptr _ a' (ARel.ren.1 h)
  | _, _, .sliceN n c => .sliceN n c
  | _, _, .slice a a' n c c' h hc => .slice _ a' n c c' (ARel.ren.1 h) ((CRel.ren h.1).1 hc)
  | _, _, .sliceE a a' c c' h => .sliceE _ a' c c' (by rw [renA_spot]; exact h)
  | _, _, .mapN => .mapN
  | _, _, .map r l h => .map (σ r) l h
  | _, _, .func f f' a b a' b' h ha hb => .func _ f' _ _ a' b' (FRel.ren.1 h) (LRel.renT ha) (LRel.renT hb)
  | _, _, .iface t v v' h => .iface t _ v' (VRel.renT h)
  | _, _, .agg a a' h => .agg _ a' (LRel.renT h)
  | _, _, .tuple a a' h => .tuple _ a' (LRel.renT h)
theorem LRel.renT : ∀ {l l' : List Value}, LRel (fun i => ρ (σ i)) l l' → LRel ρ (renL σ l) l'
  | _, _, .nil => .nil
  | _, _, .cons v v' l l' h t => .cons _ v' _ l' (VRel.renT h) (LRel.renT t)
end
mutual
theorem VRel.renB : ∀ {v v' : Value}, VRel ρ (ren σ v) v' → VRel (fun i => ρ (σ i)) v v'
  | .bool b, _, h => by cases h; exact .bool b
  | .int j n, _, h => by cases h; exact .int j n
  | .float .f32 c, _, h => by cases h; rename_i x hx; exact .rng c x hx
  | .float .f64 c, _, h => by cases h; exact .txt c _ (by assumption)
  | .string s, _, h => by cases h; exact .string s
  | .complex .f32 i b, _, h => by cases h; rename_i l x hl hx; exact .sym i b l x hl hx
  | .complex .f64 i n, _, h => by cases h; rename_i l hl hv; exact .sstr i n l _ hl hv
  | .chan none, _, h => by cases h; exact .anyB _ (by assumption)
  | .chan (some 0), _, h => by cases h; exact .any32 _ (by assumption)
  | .chan (some (r + 1)), _, h => by cases h; exact .anyS r _ _ _ (by assumption)
  | .nilFunc, _, h => by cases h; exact .nilFunc
  | .nilIface, _, h => by cases h; exact .nilIface
  | .pointer none, _, h => by cases h; exact .ptrN
  | .pointer (some a), _, h => by
    have h : VRel ρ (.pointer (some (renA σ a))) _ := h
    cases h; rename_i a' ha; exact .ptr a a' (ARel.ren.2 ha)
  | .slice none n c, _, h => by cases h; exact .sliceN n c
  | .slice (some a) n c, _, h => by
    have h : VRel ρ (.slice (some (renA σ a)) n c) _ := h
    cases h with
    | slice _ a' _ _ c' ha hc => exact .slice a a' n c c' (ARel.ren.2 ha) ((CRel.ren (by rw [← renA_spot (σ := σ)]; exact ha.1)).2 hc)
    | sliceE _ a' _ c' hs => exact .sliceE a a' c c' (by rw [← renA_spot (σ := σ)]; exact hs)
  | .map none, _, h => by cases h; exact .mapN
  | .map (some r), _, h => by
    have h : VRel ρ (.map (some (σ r))) _ := h
    cases h; rename_i l hl; exact .map r l hl
  | .func f ⟨a⟩ ⟨b⟩, _, h => by
    have h : VRel ρ (.func (renF σ f) ⟨renL σ a⟩ ⟨renL σ b⟩) _ := h
    cases h; rename_i f' a' b' hf ha hb; exact .func f f' a b a' b' (FRel.ren.2 hf) (LRel.renB ha) (LRel.renB hb)
  | .iface t v, _, h => by
    have h : VRel ρ (.iface t (ren σ v)) _ := h
    cases h; rename_i v' hv; exact .iface t v v' (VRel.renB hv)
  | .agg ⟨a⟩, _, h => by
    have h : VRel ρ (.agg ⟨renL σ a⟩) _ := h
    cases h; rename_i a' ha; exact .agg a a' (LRel.renB ha)
  | .tuple ⟨a⟩, _, h => by
    have h : VRel ρ (.tuple ⟨renL σ a⟩) _ := h
    cases h; rename_i a' ha; exact .tuple a a' (LRel.renB ha)
theorem LRel.renB : ∀ {l l' : List Value}, LRel ρ (renL σ l) l' → LRel (fun i => ρ (σ i)) l l'
  | [], _, h => by cases h; exact .nil
  | v :: l, _, h => by
    have h : LRel ρ (ren σ v :: renL σ l) _ := h
    cases h; rename_i v' l' hv ht; exact .cons v v' l l' (VRel.renB hv) (LRel.renB ht)
end
theorem renL_get : ∀ (l : List Value) (j : Nat), (renL σ l)[j]? = (l[j]?).map (ren σ)
  | [], j => by simp [renL]
  | v :: l, 0 => by simp [renL]
  | v :: l, j + 1 => by simp only [renL, List.getElem?_cons_succ]; exact renL_get l j
theorem renL_length : ∀ l : List Value, (renL σ l).length = l.length
  | [] => rfl
  | v :: l => by simp [renL, renL_length l]
theorem ERel.renT : ∀ {l l' : List MapEntry}, ERel (fun i => ρ (σ i)) l l' → ERel ρ (l.map (renE σ)) l'
  | _, _, .nil => .nil
  | _, _, .cons e e' l l' h t => .cons _ e' _ l' ⟨VRel.renT h.1, VRel.renT h.2.1, h.2.2⟩ (ERel.renT t)
theorem ERel.renB : ∀ {l l' : List MapEntry}, ERel ρ (l.map (renE σ)) l' → ERel (fun i => ρ (σ i)) l l'
  | [], _, h => by cases h; exact .nil
  | e :: l, _, h => by
    have h : ERel ρ (renE σ e :: l.map (renE σ)) _ := h
    cases h with
    | cons _ e' _ l' he ht => exact .cons e e' l l' ⟨VRel.renB he.1, VRel.renB he.2.1, he.2.2⟩ (ERel.renB ht)
variable {P : Program}
theorem ORel.renT {l : Loc} {o : AO} {o' : Obj} (h : ORel P (fun i => ρ (σ i)) l o o') : renO σ o = .dead ∨ ORel P ρ l (renO σ o) o' := by
  cases o with
  | row cs e lo =>
    obtain ⟨c, fz, h1, h2, h3, h4, h5⟩ := h
    refine .inr ⟨c, fz, h1, h2, by rw [renL_length]; exact h3, fun j v hj => ?_, by rw [renL_length]; exact h5⟩
    rw [renL_get] at hj
    cases hc : cs[j]? with
    | none => rw [hc] at hj; cases hj
    | some v0 =>
      rw [hc] at hj
      injection hj with hj
      subst hj
      obtain ⟨v', q1, q2⟩ := h4 j v0 hc
      exact ⟨v', q1, VRel.renT q2⟩
  | tab cs =>
    obtain ⟨c, e, fz, h1, h4⟩ := h
    refine .inr ⟨c, e, fz, h1, fun j v hj => ?_⟩
    rw [renL_get] at hj
    cases hc : cs[j]? with
    | none => rw [hc] at hj; cases hj
    | some v0 =>
      rw [hc] at hj
      injection hj with hj
      subst hj
      obtain ⟨v', q1, q2⟩ := h4 j v0 hc
      exact ⟨v', q1, VRel.renT q2⟩
  | obj o =>
    cases o with
    | map es c =>
      obtain ⟨es⟩ := es
      obtain ⟨h0, es', h1, h2⟩ := h
      exact .inr ⟨h0, es', h1, ERel.renT h2⟩
    | _ => exact .inl rfl
  | dead => exact .inl rfl
theorem ORel.renB {l : Loc} {o : AO} {o' : Obj} (hd : renO σ o ≠ .dead) (h : ORel P ρ l (renO σ o) o') : ORel P (fun i => ρ (σ i)) l o o' := by
  cases o with
  | row cs e lo =>
    obtain ⟨c, fz, h1, h2, h3, h4, h5⟩ := h
    rw [renL_length] at h3 h5
    refine ⟨c, fz, h1, h2, h3, fun j v hj => ?_, h5⟩
    obtain ⟨v', q1, q2⟩ := h4 j (ren σ v) (by rw [renL_get, hj]; rfl)
    exact ⟨v', q1, VRel.renB q2⟩
  | tab cs =>
    obtain ⟨c, e, fz, h1, h4⟩ := h
    refine ⟨c, e, fz, h1, fun j v hj => ?_⟩
    obtain ⟨v', q1, q2⟩ := h4 j (ren σ v) (by rw [renL_get, hj]; rfl)
    exact ⟨v', q1, VRel.renB q2⟩
  | obj o =>
    cases o with
    | map es c =>
      obtain ⟨es⟩ := es
      obtain ⟨h0, es', h1, h2⟩ := h
      exact ⟨h0, es', h1, ERel.renB h2⟩
    | _ => exact absurd rfl hd
  | dead => exact absurd rfl hd
end
end Go.Proofs.YtdhkebolenbpiaaGreatDoor.X
