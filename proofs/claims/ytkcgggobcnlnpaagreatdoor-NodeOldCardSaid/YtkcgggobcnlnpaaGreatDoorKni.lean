/- A runner for closed calls, part 9: Zg Zh Zi Zj Zq. -/
import Derived.Test.YtkcgggobcnlnpaaGreatDoorKnh
import Derived.Shelf.Unicode.DecodeSlow
namespace Go.Proofs.YtkcgggobcnlnpaaGreatDoor.X
open Go.RowKit

section
variable {P : Program}

theorem plan_ok {ops : List Oper} {pl : List Stage} (h : planOf P ops = some pl) : plOk P ops (preOf ops) pl = true := by
  unfold planOf at h
  dsimp only at h
  generalize hg : List.map _ _ = g at h
  cases hp : plOk P ops (preOf ops) g with
  | true =>
    rw [hp] at h
    injection h with h
    subst h
    exact hp
  | false => rw [hp] at h; cases h
theorem stat_of {ops : Array Oper} {pre : List Nat}
    (h1 : (ops.toList.zipIdx.all fun (o, i) => (o.after.toList.all fun e => !Region.binds .any e || decide (e.on < i)) &&
      (List.range ops.toList.length).all fun j => !inPre pre j i || o.after.toList.any fun e => Region.binds .any e && (e.on == j || inPre pre j e.on)) = true)
    (h2 : (ops.toList.zipIdx.all fun (x, i) => ops.toList.zipIdx.all fun (y, j) => i == j || inPre pre i j || inPre pre j i || apart ops.toList x y) = true) : Stat ops pre := by
  have hz : ∀ (i : Nat) (o : Oper), ops[i]? = some o → (o, i) ∈ ops.toList.zipIdx := fun i o h => by
    rw [List.mk_mem_zipIdx_iff_getElem?]
    simpa using h
  refine ⟨fun i o e ho he hb => ?_, fun i o j ho hj hp => ?_, fun i j x y hx hy hne => ?_⟩
  · have := (List.all_eq_true.1 h1) _ (hz i o ho)
    simp only [Bool.and_eq_true] at this
    have := (List.all_eq_true.1 this.1) e (Array.mem_toList_iff.2 he)
    rw [hb] at this
    simpa using this
  · have := (List.all_eq_true.1 h1) _ (hz i o ho)
    simp only [Bool.and_eq_true] at this
    have := (List.all_eq_true.1 this.2) j (List.mem_range.2 (by simpa using hj))
    rw [hp] at this
    simp only [Bool.not_true, Bool.false_or, List.any_eq_true, Bool.and_eq_true, Bool.or_eq_true, beq_iff_eq] at this
    obtain ⟨e, he, h1, h2⟩ := this
    exact ⟨e, Array.mem_toList_iff.1 he, h1, h2⟩
  · have := (List.all_eq_true.1 h2) _ (hz i x hx)
    have := (List.all_eq_true.1 this) _ (hz j y hy)
    simp only [Bool.or_eq_true, beq_iff_eq] at this
    rcases this with ((h | h) | h) | h
    · exact absurd h hne
    · exact .inl h
    · exact .inr (.inl h)
    · exact .inr (.inr h)

/-- A region that draws. -/
theorem draw_ok (hm : P.follows .mixedOrders = true) (G : Nat) : DrawOk P G := by
  intro V ih hih id ops pl a s e a2 s2 hreg hpl hrun b ρ w A hbG hw ha fn fb k cs hfb
  injection hbG with hbG hbV
  subst hbG; subst hbV
  have hp := plan_ok hpl
  unfold plOk at hp
  simp only [Bool.and_eq_true] at hp
  obtain ⟨⟨⟨⟨⟨pA, pB⟩, pC⟩, pD⟩, pE⟩, pF⟩ := hp
  have hs : Stat ops (preOf ops.toList) := stat_of (by simpa only [Bool.and_eq_true] using pE) pF
  cases pl with
  | nil => cases hrun
  | cons g r =>
    obtain ⟨p1, a1, s1, k1, k2, k3⟩ := stages_cons hrun
    have hord : ordOf (g :: r) = g.qs ++ (g.l.toList ++ ordOf r) := by simp [ordOf]
    rw [hord] at pA pB pC
    have hst : (g.qs.all fun i => match ops.toList[i]? with | some o => opKind P o != 3 | none => false) = true ∧ (match g.l with | none => true | some j => (ordOf r).all fun i => inPre (preOf ops.toList) j i) = true ∧ stOk P ops.toList (preOf ops.toList) r = true := by
      unfold stOk at pD
      rw [Bool.and_eq_true, Bool.and_eq_true] at pD
      exact ⟨pD.1.1, pD.1.2, pD.2⟩
    have hL : ∀ i, (Array.replicate ops.size false).getD i false = false := fun i => by
      simp only [Array.getD_eq_getD_getElem?, Array.getElem?_replicate]
      split <;> rfl
    have hB : Bd P ih ops (preOf ops.toList) b ρ s a (fun i => (Array.replicate ops.size false).getD i false) [] [] a s ρ { w with drawn := w.drawn + 1 } A := by
      refine ⟨.refl hw.drew, trivial, ⟨rfl, rfl, fun _ => rfl⟩, fun i o x _ h => ?_, fun i h => ?_, ha.size, ha.tmps, ha.defers, fun _ h => (List.not_mem_nil h).elim, fun _ h => (List.not_mem_nil h).elim, hw.base⟩
      · rw [hL] at h; cases h
      · rw [hL] at h; cases h
    obtain ⟨H2, hB2, r1, _, r3⟩ := quiet_stage (rem := g.l.toList ++ ordOf r) g.qs k1 hB (fun x hx => by cases hx) pC (fun i hi o ho => by
      have := (List.all_eq_true.1 hst.1) i hi
      rw [show ops.toList[i]? = some o by simpa using ho] at this
      simpa using this) (fun i _ => hL i)
    have hlt : ∀ i ∈ g.qs ++ (g.l.toList ++ ordOf r), i < ops.size := fun i hi => by
      have := (List.all_eq_true.1 pB) i hi
      simpa using this
    obtain ⟨ρ2, A2, w2, q1, q2, q3, q4⟩ := draw_main hih hs hreg ops.size (w.tape w.drawn (.order fn id)) (g := g) (r := r) (by simp) (by
        unfold left
        exact Nat.le_trans (List.length_filter_le _ _) (by simp)) hB2 k2 k3 r1 (ordOk_tail _ _ pC) (fun j hj i hi => by
        have := hst.2.1
        rw [hj] at this
        exact (List.all_eq_true.1 this) i hi) hst.2.2 (fun i hi => by
        have := (List.all_eq_true.1 pA) i (List.mem_range.2 (by simpa using hi))
        rw [List.contains_iff_mem] at this
        rcases List.mem_append.1 this with h | h
        · exact .inl (r3 i h)
        · exact .inr h) (fun i hi => hlt i (List.mem_append_right _ hi)) fb k cs
    refine ⟨ρ2, A2, w2, q1, q2, q3, ?_⟩
    refine .head stepR_region_draw ?_
    rw [hm, hfb]
    exact q4
end
end Go.Proofs.YtkcgggobcnlnpaaGreatDoor.X

namespace Go.Proofs.YtkcgggobcnlnpaaGreatDoor.X
open Go.RowKit

section
variable (P : Program) (G : Nat) (K : FuncId → List Value → St → Option (Value × St))
/-- The runner, with calls that are known. -/
noncomputable def goK (n : Nat) : Ih :=
  Nat.rec (motive := fun _ => Ih) { code := fun _ _ _ _ _ => .no 170 0, call := fun _ _ _ => .no 171 0 }
    (fun _ ih => { code := fun fn rnd c a s => stepCode P G ih fn rnd c a s, call := fun f args s => match K f args s with | some r => .ok r.1 r.2 | none => stepCall P G ih f args s }) n
end
end Go.Proofs.YtkcgggobcnlnpaaGreatDoor.X

namespace Go.Proofs.YtkcgggobcnlnpaaGreatDoor.X
open Go.RowKit

section
variable {P : Program} {G V : Nat}

/-- A call that returns, from wherever it is called. -/
def CallsU (P : Program) (f : FuncId) (args : Array Value) (w : World) (v : Value) : Prop := Calls P f args w fun e w' => e = .returned v ∧ Below w.heap.size w w'
theorem CallsU.calls {f : FuncId} {args : Array Value} {w : World} {v : Value} (h : CallsU P f args w v) : Calls P f args w fun e w' => e = .returned v ∧ Below w.heap.size w w' := h

variable {b : Base} {ρ : Ren} {s : St} {w w' : World}
theorem WRel.grow (h : WRel P b ρ s w) (hb : Below w.heap.size w w') : WRel P b ρ s w' :=
  ⟨fun i o l hi hd hl => by
    obtain ⟨o', h1, h2⟩ := h.heap i o l hi hd hl
    exact ⟨o', (hb.block _ (Array.getElem?_eq_some_iff.1 h1).1).trans h1, h2⟩,
   h.inj, h.dom, h.fresh, h.low, h.glob, h.base, Nat.le_trans h.size hb.size, h.below.trans (hb.mono h.size), h.apart, fun k hk => ⟨(h.kept k hk).1, (hb.block k (h.kept_lt hk)).trans (h.kept k hk).2⟩⟩

/-- What is known of calls. -/
def Known (P : Program) (G V : Nat) (K : FuncId → List Value → St → Option (Value × St)) : Prop := ∀ {f : FuncId} {args : List Value} {s : St} {v : Value} {s2 : St}, K f args s = some (v, s2) →
  ∀ {b : Base} {ρ : Ren} {w : World} {args' : List Value}, (b.G, b.val) = (G, V) → WRel P b ρ s w → LRel ρ args args' → ∀ cs : List Frame,
  ∃ ρ' v' w', Ok P b ρ s ρ' s2 w' ∧ VRel ρ' v v' ∧ ∃ fr, Steps P (lone (Frame.enter P f ⟨args'⟩ .normal) cs w) (lone fr cs w') ∧ fr.fn = f ∧ fr.leaving P w' (.returned v')
/-- A call that is known and leaves the abstract heap as it is. -/
theorem known_flat {f : FuncId} {args' : List Value} {v : Value} (hw : WRel P b ρ s w) (hv : flat v = true) (h : CallsU P f ⟨args'⟩ w v) (cs : List Frame) :
    ∃ ρ' v' w', Ok P b ρ s ρ' s w' ∧ VRel ρ' v v' ∧ ∃ fr, Steps P (lone (Frame.enter P f ⟨args'⟩ .normal) cs w) (lone fr cs w') ∧ fr.fn = f ∧ fr.leaving P w' (.returned v') := by
  obtain ⟨_, w', fr, ⟨rfl, g1⟩, g2, g3, g4⟩ := h cs
  exact ⟨ρ, v, w', ⟨fun _ _ => rfl, Nat.le_refl _, fun _ _ _ => rfl, hw.grow g1⟩, flat_refl ρ hv, fr, g2, g3, g4⟩
variable {K : FuncId → List Value → St → Option (Value × St)}
theorem goK_ok (hD : DrawOk P G) (hK : Known P G V K) : ∀ n, IhOk P G V (goK P G K n)
  | 0 => ⟨fun h => (by cases h), fun h => (by cases h)⟩
  | n + 1 => ⟨fun h _ _ _ _ _ hbG hw ha hr => code_ok hD (goK_ok hD hK n) h hbG hw ha hr, fun {f args s v s2} h b ρ w args' hbG hw ha cs => by
    have h' : (match K f args s with | some r => Rs.ok r.1 r.2 | none => stepCall P G (goK P G K n) f args s) = .ok v s2 := h
    cases hk : K f args s with
    | none => rw [hk] at h'; exact call_ok (goK_ok hD hK n) h' hbG hw ha cs
    | some u =>
      rw [hk] at h'
      injection h' with e1 e2
      subst e1; subst e2
      exact hK hk hbG hw ha cs⟩
theorem runU_of_goK (hD : DrawOk P G) (hK : Known P G V K) {n : Nat} {f : FuncId} {args : List Value} {s s2 : St} {v : Value} (h : (goK P G K n).call f args s = .ok v s2) {ρ : Ren} {w : World} {args' : List Value} (hw : WRel P ⟨G, w.heap.size, w, V, fun _ => False⟩ ρ s w) (ha : LRel ρ args args') (hv : flat v = true) :
    CallsU P f ⟨args'⟩ w v := by
  intro cs
  obtain ⟨ρ', v', w', g1, g2, fr, g3, g4, g5⟩ := (goK_ok hD hK n).call h rfl hw ha cs
  have := flat_eq g2 hv
  subst this
  exact ⟨.returned v', w', fr, ⟨rfl, g1.rel.below⟩, g3, g4, g5⟩

/-! ### The start -/
def firstRow : List Value := (List.range 256).map fun i => .int .u8 ((Lib.firstT i : Nat))
def accRow : List Value := (List.range 16).flatMap fun i => [.int .u8 (Lib.accLo i : Nat), .int .u8 (Lib.accHi i : Nat)]
noncomputable def start0 (G f a : Nat) : St := { heap := (Tr.set .nil f (.tab firstRow)).set a (.tab accRow), next := G }
def startR (G V : Nat) : Ren := fun i => if i < G then some ⟨i, if i + 1 = G then V else 0, 0⟩ else none
theorem accRow_at : ∀ j, j < 32 → accRow[j]? = some (if j % 2 = 0 then .int .u8 (Lib.accLo (j / 2) : Nat) else .int .u8 (Lib.accHi (j / 2) : Nat)) := by
  intro j hj
  have : j = 0 ∨ j = 1 ∨ j = 2 ∨ j = 3 ∨ j = 4 ∨ j = 5 ∨ j = 6 ∨ j = 7 ∨ j = 8 ∨ j = 9 ∨ j = 10 ∨ j = 11 ∨ j = 12 ∨ j = 13 ∨ j = 14 ∨ j = 15 ∨ j = 16 ∨ j = 17 ∨ j = 18 ∨ j = 19 ∨ j = 20 ∨ j = 21 ∨ j = 22 ∨ j = 23 ∨ j = 24 ∨ j = 25 ∨ j = 26 ∨ j = 27 ∨ j = 28 ∨ j = 29 ∨ j = 30 ∨ j = 31 := by omega
  rcases this with h | h | h | h | h | h | h | h | h | h | h | h | h | h | h | h | h | h | h | h | h | h | h | h | h | h | h | h | h | h | h | h <;> subst h <;> rfl
theorem flat_int (k : IntKind) (n : Int) : VRel ρ (.int k n) (.int k n) := .int k n
/-- A machine whose tables lie. -/
theorem start_rel {f a : Nat} (hf : f + 1 < G) (ha : a + 1 < G) (hne : f ≠ a) (hT : Lib.Utf8Tabs f a w) : WRel P ⟨G, w.heap.size, w, V, fun _ => False⟩ (startR G V) (start0 G f a) w := by
  have hget : ∀ i, (start0 G f a).heap.get i = if i = a then some (.tab accRow) else if i = f then some (.tab firstRow) else none := fun i => by
    unfold start0
    dsimp only
    rw [Tr.get_set, Tr.get_set]
    rfl
  have hcells : ∀ (g : Nat) (cs : List Value), g < G → 0 < cs.length → (∀ (j : Nat) (v : Value), cs[j]? = some v → w.cell? ⟨g, j, none⟩ = some v ∧ flat v = true) → ∀ (ρ : Ren), ∃ o', w.heap[g]? = some o' ∧ ORel P ρ ⟨g, 0, 0⟩ (.tab cs) o' := fun g cs hg hl h ρ => by
    obtain ⟨h0, _⟩ := h 0 cs[0] (List.getElem?_eq_getElem hl)
    unfold World.cell? at h0
    dsimp only at h0
    cases ho : w.heap[g]? with
    | none => rw [ho] at h0; cases h0
    | some o =>
      cases o with
      | cells c e fz =>
        refine ⟨_, rfl, c, e, fz, rfl, fun j v hj => ⟨v, ?_, flat_refl ρ (h j v hj).2⟩⟩
        have := (h j v hj).1
        unfold World.cell? at this
        rw [ho] at this
        simpa using this
      | _ => rw [ho] at h0; cases h0
  refine ⟨fun i o l hi hd hl => ?_, fun i j o o' l l' hne hi hd hj hd' hl hl' => ?_, fun i l hl => ?_, fun i hi => ?_, fun i l hi hl => ?_, fun g hg => ?_, Nat.le_refl _, Nat.le_refl _, .refl _ _, fun _ _ _ _ _ _ _ h => h, fun _ h => h.elim⟩
  · rw [hget] at hi
    unfold startR at hl
    split at hl
    · injection hl with hl
      subst hl
      split at hi
      · rename_i he
        subst he
        injection hi with hi
        subst hi
        rw [if_neg (show ¬ i + 1 = G by omega)]
        refine hcells i accRow (by omega) (by decide) (fun j v hj => ?_) _
        have hj32 : j < 32 := by
          have := (List.getElem?_eq_some_iff.1 hj).1
          have e : accRow.length = 32 := by decide
          omega
        rw [accRow_at j hj32] at hj
        injection hj with hj
        have h2 := hT.2 (j / 2) (by omega)
        by_cases hm : j % 2 = 0
        · rw [if_pos hm] at hj
          subst hj
          have : 2 * (j / 2) = j := by omega
          rw [this] at h2
          exact ⟨h2.1, rfl⟩
        · rw [if_neg hm] at hj
          subst hj
          have : 2 * (j / 2) + 1 = j := by omega
          rw [this] at h2
          exact ⟨h2.2, rfl⟩
      · split at hi
        · rename_i he
          subst he
          injection hi with hi
          subst hi
          rw [if_neg (show ¬ i + 1 = G by omega)]
          refine hcells i firstRow (by omega) (by unfold firstRow; simp) (fun j v hj => ?_) _
          have hj256 : j < 256 := by
            have := (List.getElem?_eq_some_iff.1 hj).1
            unfold firstRow at this
            simpa using this
          unfold firstRow at hj
          rw [List.getElem?_map, List.getElem?_range hj256] at hj
          injection hj with hj
          subst hj
          exact ⟨hT.1 j hj256, rfl⟩
        · cases hi
    · cases hl
  · unfold startR at hl hl'
    split at hl
    · split at hl'
      · injection hl with hl; injection hl' with hl'
        subst hl; subst hl'
        exact hne
      · cases hl'
    · cases hl
  · unfold startR at hl
    split at hl
    · assumption
    · cases hl
  · have hi' : G ≤ i := hi
    rw [hget, if_neg (by omega), if_neg (by omega)]
  · unfold startR at hl
    rw [if_neg (by have : G ≤ i := hi; omega)] at hl
    cases hl
  · unfold startR
    exact if_pos hg
end
end Go.Proofs.YtkcgggobcnlnpaaGreatDoor.X

namespace Go.Proofs.YtkcgggobcnlnpaaGreatDoor.X
open Go.RowKit

/-! ### Calls without arguments that are known to return true -/
noncomputable def tabsHere (f a : Nat) (s : St) : Bool :=
  match s.heap.get f, s.heap.get a with
  | some (.tab x), some (.tab y) => sames x firstRow && sames y accRow
  | _, _ => false
noncomputable def KA (fs : List FuncId) (f a : Nat) (g : FuncId) (args : List Value) (s : St) : Option (Value × St) :=
  match args with
  | [] => bif fs.any (Nat.beq g) then bif tabsHere f a s then some (.bool true, s) else none else none
  | _ => none
def okTrue : Rs Value → Bool
  | .ok (.bool true) _ => true
  | _ => false
theorem okTrue_ok {r : Rs Value} (h : okTrue r = true) : ∃ s, r = .ok (.bool true) s := by
  unfold okTrue at h
  split at h
  · exact ⟨_, rfl⟩
  · cases h

section
variable {P : Program} {G V : Nat} {b : Base} {ρ : Ren} {s : St} {w : World}
theorem firstRow_at (c : Nat) (h : c < 256) : firstRow[c]? = some (.int .u8 (Lib.firstT c : Nat)) := by
  unfold firstRow
  rw [List.getElem?_map, List.getElem?_range h]; rfl
theorem int_rel {k : IntKind} {n : Int} {v : Value} (h : VRel ρ (.int k n) v) : v = .int k n := by cases h; rfl
theorem tabs_of {f a : Nat} (hf : f + 1 < b.G) (ha : a + 1 < b.G) (hw : WRel P b ρ s w) (h : tabsHere f a s = true) : Lib.Utf8Tabs f a w := by
  have key : ∀ (g : Nat) (cs : List Value), g + 1 < b.G → s.heap.get g = some (.tab cs) → ∀ (j : Nat) (k : IntKind) (n : Int), cs[j]? = some (.int k n) → w.cell? ⟨g, j, none⟩ = some (.int k n) := fun g cs hg hget j k n hj => by
    obtain ⟨o', ho, c, e, fz, rfl, hr⟩ := hw.heap g _ _ hget (by simp) (hw.globU hg)
    obtain ⟨v', h1, h2⟩ := hr j _ hj
    have := int_rel h2
    subst this
    simp only [World.cell?]
    dsimp only at ho
    rw [ho]
    simpa using h1
  unfold tabsHere at h
  split at h
  · rename_i x y hx hy
    simp only [Bool.and_eq_true] at h
    have h1 := sames_eq h.1
    have h2 := sames_eq h.2
    subst h1; subst h2
    refine ⟨fun c hc => key f _ hf hx c _ _ (firstRow_at c hc), fun i hi => ⟨key a _ ha hy _ _ _ ?_, key a _ ha hy _ _ _ ?_⟩⟩
    · rw [accRow_at _ (by omega), if_pos (by omega)]
      have : 2 * i / 2 = i := by omega
      rw [this]
    · rw [accRow_at _ (by omega), if_neg (by omega)]
      have : (2 * i + 1) / 2 = i := by omega
      rw [this]
  · cases h
theorem known_KA {fs : List FuncId} {f a : Nat} (hf : f + 1 < G) (ha : a + 1 < G) (h : ∀ g ∈ fs, ∀ w, Lib.Utf8Tabs f a w → CallsU P g #[] w (.bool true)) : Known P G V (KA fs f a) := by
  intro g args s v s2 hk b ρ w args' hbG hw hl cs
  injection hbG with hbG hbV
  subst hbG; subst hbV
  unfold KA at hk
  cases hl with
  | cons => cases hk
  | nil =>
    dsimp only at hk
    cases h1 : fs.any (Nat.beq g) with
    | false => rw [h1] at hk; cases hk
    | true =>
      rw [h1] at hk
      cases h2 : tabsHere f a s with
      | false => rw [h2] at hk; cases hk
      | true =>
        rw [h2] at hk
        injection hk with hk
        injection hk with hk1 hk2
        subst hk1; subst hk2
        obtain ⟨x, hx, h3⟩ := List.any_eq_true.1 h1
        have := Nat.eq_of_beq_eq_true h3
        subst this
        exact known_flat hw rfl (h g hx w (tabs_of hf ha hw h2)) cs
/-- A call that returns true wherever the tables lie: whatever is known, symbols among the arguments. -/
theorem true_of_runK (hm : P.follows .mixedOrders = true) {K : FuncId → List Value → St → Option (Value × St)} (hK : Known P G V K) {f a n : Nat} (hf : f + 1 < G) (ha : a + 1 < G) (hne : f ≠ a) {g : FuncId} {args args' : List Value}
    (hrun : okTrue ((goK P G K n).call g args (start0 G f a)) = true) (hargs : LRel (startR G V) args args') : ∀ w, Lib.Utf8Tabs f a w → CallsU P g ⟨args'⟩ w (.bool true) := by
  intro w hT
  obtain ⟨s2, hr⟩ := okTrue_ok hrun
  exact runU_of_goK (draw_ok hm G) hK hr (start_rel hf ha hne hT) hargs rfl
theorem sym_relB {b : Nat} (h0 : sOff b = 0) (hb : b ≠ 0 → (sLo b : Int) ≤ symI V ∧ symI V ≤ (sHi b : Int)) : VRel (startR (G + 1) V) (.complex .f32 G b) (.int .i64 (symI V)) :=
  .sym G b ⟨G, V, 0⟩ (symI V) (by unfold startR; rw [if_pos (by omega), if_pos rfl]) ⟨by rw [h0]; simp, hb⟩
theorem sym_rel (_ : Nat) : VRel (startR (G + 1) V) (.complex .f32 G 0) (.int .i64 (symI V)) := sym_relB rfl fun h => absurd rfl h
/-- A CLOSED CALL that returns true wherever the tables lie. -/
theorem true_of_run (hm : P.follows .mixedOrders = true) {fs : List FuncId} {f a n : Nat} (hf : f + 1 < G) (ha : a + 1 < G) (hne : f ≠ a) (h : ∀ g ∈ fs, ∀ w, Lib.Utf8Tabs f a w → CallsU P g #[] w (.bool true)) {g : FuncId} {args : List Value}
    (hrun : okTrue ((goK P G (KA fs f a) n).call g args (start0 G f a)) = true) (hargs : args.all flat = true) : ∀ w, Lib.Utf8Tabs f a w → CallsU P g ⟨args⟩ w (.bool true) := by
  intro w hT
  obtain ⟨s2, hr⟩ := okTrue_ok hrun
  refine runU_of_goK (draw_ok hm G) (known_KA hf ha h) hr (start_rel (V := 0) hf ha hne hT) ?_ rfl
  clear hrun hr
  induction args with
  | nil => exact .nil
  | cons x l ih =>
    simp only [List.all_cons, Bool.and_eq_true] at hargs
    exact .cons _ _ _ _ (flat_refl _ hargs.1) (ih hargs.2)
end
end Go.Proofs.YtkcgggobcnlnpaaGreatDoor.X

namespace Go.Proofs.YtkcgggobcnlnpaaGreatDoor.X
open Go.RowKit
/-! ### The plan, found quicker -/
noncomputable def allF {α : Type} (p : α → Bool) (l : List α) : Bool := List.rec (motive := fun _ => Bool) true (fun x _ r => Bool.rec (motive := fun _ => Bool) false r (p x)) l
theorem allF_eq {α : Type} (p : α → Bool) : ∀ l : List α, allF p l = l.all p
  | [] => rfl
  | x :: l => by
    show Bool.rec (motive := fun _ => Bool) false (allF p l) (p x) = _
    rw [allF_eq p l, List.all_cons]; cases p x <;> rfl
noncomputable def anyF {α : Type} (p : α → Bool) (l : List α) : Bool := List.rec (motive := fun _ => Bool) false (fun x _ r => Bool.rec (motive := fun _ => Bool) r true (p x)) l
theorem anyF_eq {α : Type} (p : α → Bool) : ∀ l : List α, anyF p l = l.any p
  | [] => rfl
  | x :: l => by
    show Bool.rec (motive := fun _ => Bool) (anyF p l) true (p x) = _
    rw [anyF_eq p l, List.any_cons]; cases p x <;> rfl
noncomputable def notF (b : Bool) : Bool := Bool.rec (motive := fun _ => Bool) true false b
theorem notF_eq (b : Bool) : notF b = !b := by cases b <;> rfl
noncomputable def andF (a b : Bool) : Bool := Bool.rec (motive := fun _ => Bool) false b a
theorem andF_eq (a b : Bool) : andF a b = (a && b) := by cases a <;> rfl
noncomputable def orF (a b : Bool) : Bool := Bool.rec (motive := fun _ => Bool) b true a
theorem orF_eq (a b : Bool) : orF a b = (a || b) := by cases a <;> rfl
noncomputable def bitF (p j : Nat) : Bool := Nat.beq (Nat.land 1 (Nat.shiftRight p j)) 1
theorem bitF_eq (p j : Nat) : bitF p j = p.testBit j := by
  show Nat.beq (1 &&& (p >>> j)) 1 = _
  unfold Nat.testBit
  rw [Nat.one_and_eq_mod_two]
  rcases Nat.mod_two_eq_zero_or_one (p >>> j) with h | h <;> rw [h] <;> rfl
noncomputable def nthD (l : List Nat) (i : Nat) : Nat := Option.rec (motive := fun _ => Nat) 0 (fun x => x) (nth l i)
theorem nthD_eq (l : List Nat) (i : Nat) : nthD l i = l.getD i 0 := by
  unfold nthD
  rw [nth_eq, List.getD_eq_getElem?_getD]
  cases l[i]? <;> rfl
noncomputable def preF (pre : List Nat) (j i : Nat) : Bool := bitF (nthD pre i) j
theorem preF_eq (pre : List Nat) (j i : Nat) : preF pre j i = inPre pre j i := by unfold preF inPre; rw [bitF_eq, nthD_eq]
noncomputable def idxF {α : Type} (p : α → Nat → Bool) (l : List α) : Nat → Bool := List.rec (motive := fun _ => Nat → Bool) (fun _ => true) (fun x _ r i => Bool.rec (motive := fun _ => Bool) false (r (Nat.succ i)) (p x i)) l
theorem idxF_eq {α : Type} (p : α → Nat → Bool) : ∀ (l : List α) (i : Nat), idxF p l i = (l.zipIdx i).all (fun x => p x.1 x.2)
  | [], _ => rfl
  | x :: l, i => by
    show Bool.rec (motive := fun _ => Bool) false (idxF p l (i + 1)) (p x i) = _
    rw [idxF_eq p l, List.zipIdx_cons, List.all_cons]; cases p x i <;> rfl
noncomputable def ordF (pre : List Nat) (l : List Nat) : Bool := List.rec (motive := fun _ => Bool) true (fun y r go => Bool.rec (motive := fun _ => Bool) false go (allF (fun x => andF (notF (Nat.beq x y)) (notF (preF pre x y))) r)) l
theorem beq_nat (x y : Nat) : Nat.beq x y = (x == y) := by rw [Bool.eq_iff_iff]; simp
theorem bne_nat (x y : Nat) : (!(x == y)) = (x != y) := rfl
theorem ordF_eq (pre : List Nat) : ∀ l, ordF pre l = ordOk pre l
  | [] => rfl
  | y :: r => by
    show Bool.rec (motive := fun _ => Bool) false (ordF pre r) (allF (fun x => andF (notF (Nat.beq x y)) (notF (preF pre x y))) r) = (r.all (fun x => x != y && !inPre pre x y) && ordOk pre r)
    rw [ordF_eq pre r, allF_eq]
    simp only [andF_eq, notF_eq, preF_eq, beq_nat]
    have : (r.all fun x => !(x == y) && !inPre pre x y) = r.all (fun x => x != y && !inPre pre x y) := rfl
    rw [this]
    cases r.all (fun x => x != y && !inPre pre x y) <;> rfl
noncomputable def stF (P : Program) (ops : List Oper) (pre : List Nat) (l : List Stage) : Bool :=
  List.rec (motive := fun _ => Bool) true (fun g r go =>
    andF (allF (fun i => match nth ops i with | some o => notF (Nat.beq (opKind P o) 3) | none => false) g.qs)
      (andF (match g.l with | none => true | some j => allF (fun i => preF pre j i) (ordOf r)) go)) l
theorem stF_eq (P : Program) (ops : List Oper) (pre : List Nat) : ∀ l, stF P ops pre l = stOk P ops pre l
  | [] => rfl
  | g :: r => by
    show andF (allF (fun i => match nth ops i with | some o => notF (Nat.beq (opKind P o) 3) | none => false) g.qs)
      (andF (match g.l with | none => true | some j => allF (fun i => preF pre j i) (ordOf r)) (stF P ops pre r)) = _
    have e : stOk P ops pre (g :: r) = (g.qs.all (fun i => match ops[i]? with | some o => opKind P o != 3 | none => false) &&
      (match g.l with | none => true | some j => (ordOf r).all fun i => inPre pre j i) && stOk P ops pre r) := rfl
    rw [stF_eq P ops pre r, andF_eq, andF_eq, allF_eq, e, Bool.and_assoc]
    simp only [allF_eq, preF_eq, nth_eq, notF_eq, beq_nat, bne_nat]
noncomputable def apartF (lk : List Nat) (x y : Oper) : Bool :=
  Option.rec (motive := fun _ => Bool) true (fun d => andF (notF (anyF (fun t => Nat.beq d t) lk)) (Option.rec (motive := fun _ => Bool) true (fun d' => notF (Nat.beq d' d)) y.dst)) x.dst
theorem apartF_eq (ops : List Oper) (x y : Oper) : apartF (looks ops y) x y = apart ops x y := by
  unfold apartF apart
  cases x.dst with
  | none => rfl
  | some d =>
    show andF (notF (anyF (fun t => Nat.beq d t) (looks ops y))) (Option.rec (motive := fun _ => Bool) true (fun d' => notF (Nat.beq d' d)) y.dst) = (!(looks ops y).contains d && y.dst != some d)
    rw [andF_eq, notF_eq, anyF_eq]
    congr 1
    · rw [List.contains_eq_any_beq]; simp only [beq_nat]
    · cases y.dst with
      | none => rfl
      | some d' => show notF (Nat.beq d' d) = _; rw [notF_eq]; simp [bne, beq_nat]
noncomputable def plF (P : Program) (ops : List Oper) (pre : List Nat) (g : List Stage) : Bool :=
  andF (andF (andF (andF (andF (allF (fun i => anyF (fun x => Nat.beq i x) (ordOf g)) (List.range ops.length)) (allF (fun i => Nat.blt i ops.length) (ordOf g))) (ordF pre (ordOf g))) (stF P ops pre g))
    (idxF (fun o i => andF (allF (fun e => orF (notF (Region.binds .any e)) (Nat.blt e.on i)) o.after.toList)
      (allF (fun j => orF (notF (preF pre j i)) (anyF (fun e => andF (Region.binds .any e) (orF (Nat.beq e.on j) (preF pre j e.on))) o.after.toList)) (List.range ops.length))) ops 0))
    (idxF (fun x i => idxF (fun y j => orF (Nat.beq i j) (orF (preF pre i j) (orF (preF pre j i) (apartF (looks ops y) x y)))) ops 0) ops 0)
theorem blt_dec (i n : Nat) : Nat.blt i n = decide (i < n) := by
  rw [Bool.eq_iff_iff]; simp [Nat.blt]; omega
theorem plF_eq (P : Program) (ops : List Oper) (pre : List Nat) (g : List Stage) : plF P ops pre g = plOk P ops pre g := by
  unfold plF plOk
  simp only [andF_eq, orF_eq, notF_eq, allF_eq, anyF_eq, idxF_eq, ordF_eq, stF_eq, apartF_eq, preF_eq, blt_dec, beq_nat]
  congr 1
  · congr 1
    · congr 1
      · congr 1
        · congr 1
          · congr 1; funext i; rw [List.contains_eq_any_beq]
  · simp only [Bool.or_assoc]
noncomputable def filF {α : Type} (p : α → Bool) (l : List α) : List α := List.rec (motive := fun _ => List α) [] (fun x _ r => Bool.rec (motive := fun _ => List α) r (x :: r) (p x)) l
theorem filF_eq {α : Type} (p : α → Bool) : ∀ l : List α, filF p l = l.filter p
  | [] => rfl
  | x :: l => by
    show Bool.rec (motive := fun _ => List α) (filF p l) (x :: filF p l) (p x) = _
    rw [filF_eq p l, List.filter_cons]; cases p x <;> rfl
noncomputable def planF (P : Program) (ops : List Oper) : Option (List Stage) :=
  (fun (pre : List Nat) (n : Nat) (louds : List Nat) =>
    (fun g => Bool.rec (motive := fun _ => Option (List Stage)) none (some g) (plF P ops pre g))
      ((List.range (lenL louds + 1)).map fun t => { qs := filF (fun i => andF (notF (Nat.beq (match nth ops i with | some o => opKind P o | none => 3) 3)) (Nat.beq (lenL (filF (fun l => preF pre l i) louds)) t)) (List.range n), l := nth louds t : Stage }))
    (preOf ops) ops.length (filF (fun i => Nat.beq (match nth ops i with | some o => opKind P o | none => 3) 3) (List.range ops.length))
theorem planF_eq (P : Program) (ops : List Oper) : planF P ops = planOf P ops := by
  unfold planF planOf
  simp only [filF_eq, plF_eq, nth_eq, lenL_eq, preF_eq, andF_eq, notF_eq, beq_nat, bne_nat]
  generalize plOk P ops _ _ = q
  cases q <;> rfl
end Go.Proofs.YtkcgggobcnlnpaaGreatDoor.X
