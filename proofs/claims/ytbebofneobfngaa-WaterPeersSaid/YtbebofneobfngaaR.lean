/- A region that draws its order, walked in one order: first what only reads, then the rest, one behind the other. -/
import Derived.StillTail
import Derived.StillTailTactics
import Derived.Laws.World
import Derived.Deep.QuietTactic
import Derived.BigQuiet
namespace Go.Proofs.Ytbebofneobfngaa
section
variable {P : Program} {ops : Array Oper} {md : Region.Mode} {Q : Exit → Act → World → Prop}

/-- Ops that never look at the world. -/
def muteKind (o : Oper) : Bool :=
  match o.op with
  | .move _ | .assign _ => true
  | _ => false

theorem mute_run {o : Oper} (h : muteKind o = true) (ρ : Operand → Value) : ∃ v, ∀ w, (execOp ρ o).run P w = .ok (.value v) w := by
  obtain ⟨dst, op, ty, pos, after, guard⟩ := o
  cases op <;> simp [muteKind] at h
  · exact ⟨_, fun w => rfl⟩
  · exact ⟨_, fun w => rfl⟩

def stepR (P : Program) (ops : Array Oper) (Q : Exit → Act → World → Prop) (F : Nat → Bool) (j : Nat) (K : Act → World → Prop) (a : Act) (w : World) : Prop :=
  if F j then stOp P ops w j (fun a' => K a' w) a else wpOp P ops Q j K a w

def wpAnyR (P : Program) (md : Region.Mode) (ops : Array Oper) (Q : Exit → Act → World → Prop) (F : Nat → Bool) : Nat → Array Bool → Act → World → Prop
  | 0, listed, a, w => Region.ready md ops listed = [] ∧ Q .normal a w
  | fuel + 1, listed, a, w =>
    (Region.ready md ops listed = [] → Q .normal a w) ∧
    ∀ i ∈ Region.ready md ops listed, stepR P ops Q F i (wpAnyR P md ops Q F fuel (listed.setIfInBounds i true)) a w

theorem stepR_mono {F : Nat → Bool} {i : Nat} {K K' : Act → World → Prop} {a : Act} {w : World} (h : ∀ a w, K a w → K' a w) (hh : stepR P ops Q F i K a w) : stepR P ops Q F i K' a w := by
  unfold stepR at *
  split
  · rename_i hf; rw [if_pos hf] at hh; exact stOp_mono (fun a' => h a' w) hh
  · rename_i hf; rw [if_neg hf] at hh; exact wpOp_mono h hh

theorem wpAny_of_R {F : Nat → Bool} : ∀ (fuel : Nat) (listed : Array Bool) (a : Act) (w : World), wpAnyR P md ops Q F fuel listed a w → wpAny P md ops Q fuel listed a w
  | 0, _, _, _, h => h
  | fuel + 1, _, _, _, h => ⟨h.1, fun i hi => by
      have h1 := h.2 i hi
      unfold stepR at h1
      split at h1
      · exact wpOp_of_stOp (fun a' h' => wpAny_of_R fuel _ a' _ h') h1
      · exact wpOp_mono (fun a' w' h' => wpAny_of_R fuel _ a' w' h') h1⟩

def Closed (md : Region.Mode) (ops : Array Oper) (listed : Array Bool) : Prop :=
  ∀ j oj, ops[j]? = some oj → listed.getD j false = true → ∀ e ∈ oj.after, Region.binds md e = true → listed.getD e.on false = true

theorem Closed.set {listed : Array Bool} {i : Nat} (h : Closed md ops listed) (hi : i ∈ Region.ready md ops listed) : Closed md ops (listed.setIfInBounds i true) := by
  obtain ⟨_, oi, hoi, hall⟩ := mem_ready.1 hi
  intro j oj hj hl e he hb
  by_cases hij : i = j
  · subst hij
    have : oj = oi := Option.some.inj (hj.symm.trans hoi)
    subst this
    exact getD_set_true (hall e he hb)
  · rw [getD_set_ne false hij] at hl
    exact getD_set_true (h j oj hj hl e he hb)

theorem ready_not {listed : Array Bool} {i j : Nat} {oj : Oper} (hj : j ∈ Region.ready md ops listed) (hoj : ops[j]? = some oj) (hi : i ∈ Region.ready md ops listed) : ∀ e ∈ oj.after, Region.binds md e = true → e.on ≠ i := by
  intro e he hb heq
  obtain ⟨_, oj', hoj', hall⟩ := mem_ready.1 hj
  have : oj' = oj := Option.some.inj (hoj'.symm.trans hoj)
  subst this
  have h1 := hall e he hb
  have h0 := (mem_ready.1 hi).1
  rw [heq, getD_both h0] at h1
  cases h1

/-- All that is listed there is listed here. -/
def Sup (base listed : Array Bool) : Prop := ∀ j, base.getD j false = true → listed.getD j false = true
theorem Sup.set {base listed : Array Bool} (h : Sup base listed) (j : Nat) : Sup base (listed.setIfInBounds j true) := fun k hk => getD_set_true (h k hk)

/-- What yields at this world may be taken first, if nothing else than what only reads may come before it. -/
theorem wpAnyR_still {F : Nat → Bool} {base : Array Bool} {i : Nat} {oi : Oper} {v : Value} (hi : ops[i]? = some oi) (hF : F i = true) (hsel : ∀ (j : Nat) (o : Oper) cs b, ops[j]? = some o → o.op ≠ .select cs b)
    (hT : ∀ listed, Closed md ops listed → Sup base listed → i ∈ Region.ready md ops listed → ∀ j ∈ Region.ready md ops listed, F j = true) :
    ∀ (fuel : Nat) (listed : Array Bool) (a : Act) (w : World), Closed md ops listed → Sup base listed →
      (∀ j oj, ops[j]? = some oj → j ≠ i → listed.getD j true = false → (∀ e ∈ oj.after, Region.binds md e = true → e.on ≠ i) → oi.apart ops oj = true) →
      i ∈ Region.ready md ops listed → YieldsAt P ops w oi v a →
      wpAnyR P md ops Q F fuel (listed.setIfInBounds i true) (a.put oi.dst v) w → wpAnyR P md ops Q F (fuel + 1) listed a w := by
  intro fuel
  induction fuel with
  | zero =>
    intro listed a w _ _ _ hr hy H
    refine ⟨fun h => (by rw [h] at hr; cases hr), fun j hj => ?_⟩
    by_cases hji : j = i
    · subst hji; unfold stepR; rw [if_pos hF]; exact hy.stOp hi H
    · have := ready_mono hj hji
      rw [H.1] at this
      cases this
  | succ fuel ih =>
    intro listed a w hcl hsup hfree hr hy H
    refine ⟨fun h => (by rw [h] at hr; cases hr), fun j hj => ?_⟩
    by_cases hji : j = i
    · subst hji; unfold stepR; rw [if_pos hF]; exact hy.stOp hi H
    · have hFj := hT listed hcl hsup hr j hj
      have h1 := H.2 j (ready_mono hj hji)
      unfold stepR at h1 ⊢
      rw [if_pos hFj] at h1 ⊢
      obtain ⟨hjun, oj, hoj, hall⟩ := mem_ready.1 hj
      have h2 := stOp_put hoj (hfree j oj hoj hji hjun (ready_not hj hoj hr)) (fun cs b => hsel i oi cs b hi) (fun cs b => hsel j oj cs b hoj) hy h1
      have hfree' : ∀ k ok, ops[k]? = some ok → k ≠ i → (listed.setIfInBounds j true).getD k true = false →
          (∀ e ∈ ok.after, Region.binds md e = true → e.on ≠ i) → oi.apart ops ok = true := fun k ok hk hki hun hno => by
        refine hfree k ok hk hki ?_ hno
        by_cases hjk : j = k
        · subst hjk; exact hjun
        · rw [getD_set_ne true hjk] at hun; exact hun
      refine stOp_mono (fun a' h3 => ih (listed.setIfInBounds j true) a' w (hcl.set hj) (hsup.set j) hfree' (ready_mono hr (Ne.symm hji)) h3.1 ?_) h2
      rw [Array.setIfInBounds_comm _ _ hji]
      exact h3.2

theorem Yields.at_ {o : Oper} {v : Value} {a : Act} {w : World} (h : Yields P ops o v a) : YieldsAt P ops w o v a := by
  rcases h with ⟨h1, h2⟩ | h
  · exact .inl ⟨h1, .inl (h2 w)⟩
  · exact .inr h

/-- What yields at any world may be taken first. -/
theorem wpAnyR_mute {F : Nat → Bool} {i : Nat} {oi : Oper} {v : Value} (hi : ops[i]? = some oi) (hF : F i = true) (hsel : ∀ (j : Nat) (o : Oper) cs b, ops[j]? = some o → o.op ≠ .select cs b)
    (hQ : ∀ c a w, Q (.panic c) (a.put oi.dst v) w → Q (.panic c) a w) :
    ∀ (fuel : Nat) (listed : Array Bool) (a : Act) (w : World),
      (∀ j oj, ops[j]? = some oj → j ≠ i → listed.getD j true = false → (∀ e ∈ oj.after, Region.binds md e = true → e.on ≠ i) → oi.apart ops oj = true) →
      i ∈ Region.ready md ops listed → Yields P ops oi v a →
      wpAnyR P md ops Q F fuel (listed.setIfInBounds i true) (a.put oi.dst v) w → wpAnyR P md ops Q F (fuel + 1) listed a w := by
  intro fuel
  induction fuel with
  | zero =>
    intro listed a w _ hr hy H
    refine ⟨fun h => (by rw [h] at hr; cases hr), fun j hj => ?_⟩
    by_cases hji : j = i
    · subst hji; unfold stepR; rw [if_pos hF]; exact (Yields.at_ hy).stOp hi H
    · have := ready_mono hj hji
      rw [H.1] at this
      cases this
  | succ fuel ih =>
    intro listed a w hfree hr hy H
    refine ⟨fun h => (by rw [h] at hr; cases hr), fun j hj => ?_⟩
    by_cases hji : j = i
    · subst hji; unfold stepR; rw [if_pos hF]; exact (Yields.at_ hy).stOp hi H
    · have h1 := H.2 j (ready_mono hj hji)
      obtain ⟨hjun, oj, hoj, hall⟩ := mem_ready.1 hj
      have hap := hfree j oj hoj hji hjun (ready_not hj hoj hr)
      have hfree' : ∀ k ok, ops[k]? = some ok → k ≠ i → (listed.setIfInBounds j true).getD k true = false →
          (∀ e ∈ ok.after, Region.binds md e = true → e.on ≠ i) → oi.apart ops ok = true := fun k ok hk hki hun hno => by
        refine hfree k ok hk hki ?_ hno
        by_cases hjk : j = k
        · subst hjk; exact hjun
        · rw [getD_set_ne true hjk] at hun; exact hun
      have keep : ∀ (a a' : Act), Yields P ops oi v a → execOp a'.eval oi = execOp a.eval oi → Region.wanted oi (yielded ops a'.tmps) = Region.wanted oi (yielded ops a.tmps) → Yields P ops oi v a' :=
        fun _ _ hy he hw => hy.of_same he hw
      unfold stepR at h1 ⊢
      by_cases hFj : F j = true
      · rw [if_pos hFj] at h1 ⊢
        obtain ⟨_, _, h3⟩ := Oper.apart_spec hap
        have h2 := stOp_put hoj hap (fun cs b => hsel i oi cs b hi) (fun cs b => hsel j oj cs b hoj) (Yields.at_ hy) h1
        -- the other one leaves it as it is
        have h4 : stOp P ops w j (fun a' => Yields P ops oi v a' ∧ wpAnyR P md ops Q F fuel ((listed.setIfInBounds i true).setIfInBounds j true) (a'.put oi.dst v) w) a := by
          obtain ⟨u, hyj, hK⟩ := yieldsAt_of_stOp hoj h2
          refine hyj.stOp hoj ⟨?_, hK.2⟩
          exact hy.of_same (execOp_put oi (fun cs b => hsel i oi cs b hi) a oj.dst u h3) (wanted_put oi a oj.dst u h3)
        refine stOp_mono (fun a' h5 => ih (listed.setIfInBounds j true) a' w hfree' (ready_mono hr (Ne.symm hji)) h5.1 ?_) h4
        rw [Array.setIfInBounds_comm _ _ hji]
        exact h5.2
      · rw [if_neg hFj] at h1 ⊢
        have h2 := wpOp_put hoj hap (fun cs b => hsel i oi cs b hi) (fun cs b => hsel j oj cs b hoj) hQ hy h1
        refine wpOp_mono (fun a' w' h5 => ih (listed.setIfInBounds j true) a' w' hfree' (ready_mono hr (Ne.symm hji)) h5.1 ?_) h2
        rw [Array.setIfInBounds_comm _ _ hji]
        exact h5.2

/-- Does op t wait for op i, through others? -/
def reachB (md : Region.Mode) (ops : Array Oper) : Nat → Nat → Nat → Bool
  | 0, _, _ => false
  | f + 1, t, i => match ops[t]? with
    | some o => o.after.any fun e => Region.binds md e && (e.on == i || reachB md ops f e.on i)
    | none => false

theorem reachB_not {listed : Array Bool} (hcl : Closed md ops listed) {i : Nat} (hi : listed.getD i false = false) : ∀ (f t : Nat), reachB md ops f t i = true → listed.getD t false = false ∧ t ∉ Region.ready md ops listed
  | 0, _, h => by simp [reachB] at h
  | f + 1, t, h => by
    unfold reachB at h
    split at h
    · rename_i o ho
      obtain ⟨e, he, hb⟩ := Array.any_eq_true'.1 h
      simp only [Bool.and_eq_true, Bool.or_eq_true, beq_iff_eq] at hb
      have hun : listed.getD e.on false = false := by
        rcases hb.2 with h1 | h1
        · rw [h1]; exact hi
        · exact (reachB_not hcl hi f e.on h1).1
      refine ⟨?_, fun hr => ?_⟩
      · cases hl : listed.getD t false with
        | false => rfl
        | true => rw [hcl t o ho hl e he hb.1] at hun; cases hun
      · obtain ⟨_, o', ho', hall⟩ := mem_ready.1 hr
        have : o' = o := Option.some.inj (ho'.symm.trans ho)
        subst this
        rw [hall e he hb.1] at hun; cases hun
    · cases h

def tailB (md : Region.Mode) (ops : Array Oper) (next : Array Bool → Bool) : List Nat → Array Bool → Bool
  | [], listed => next listed
  | t :: r, listed => decide (Region.ready md ops listed = [t]) && tailB md ops next r (listed.setIfInBounds t true)

/-- 'ts': the ops to come that are no heads. -/
def headB (md : Region.Mode) (ops : Array Oper) (ts : List Nat) (next : Array Bool → Bool) : List Nat → Array Bool → Bool
  | [], listed => next listed
  | i :: r, listed => (Region.ready md ops listed).contains i && Region.free md ops listed i && (((ops[i]?).map muteKind).getD false || ts.all fun t => reachB md ops 8 t i)
      && headB md ops ts next r (listed.setIfInBounds i true)

def tailsOf (segs : List (List Nat × List Nat)) : List Nat := segs.flatMap (·.2)
def headsOf (segs : List (List Nat × List Nat)) : List Nat := segs.flatMap (·.1)
def lenOf : List (List Nat × List Nat) → Nat
  | [] => 0
  | s :: r => s.1.length + (s.2.length + lenOf r)

def segsB (md : Region.Mode) (ops : Array Oper) : List (List Nat × List Nat) → Array Bool → Bool
  | [], listed => (Region.ready md ops listed).isEmpty
  | s :: r, listed => headB md ops (tailsOf (s :: r)) (tailB md ops (segsB md ops r) s.2) s.1 listed

def htB (md : Region.Mode) (ops : Array Oper) (segs : List (List Nat × List Nat)) : Bool :=
  Region.noSelect ops && decide (lenOf segs = ops.size) && (List.range ops.size).all (fun j => (headsOf segs).contains j || (tailsOf segs).contains j) && (tailsOf segs).all (fun t => !(headsOf segs).contains t)
    && segsB md ops segs (Array.replicate ops.size false)

def pick (l : List Oper) (idx : List Nat) : List Oper := idx.filterMap (l[·]?)

/-- Behind a segment: what follows. -/
def SegQ (K : Act → World → Prop) (Q : Exit → Act → World → Prop) : Exit → Act → World → Prop
  | .normal, a, w => K a w
  | e, a, w => Q e a w

def wpSegs (P : Program) (ops : Array Oper) (Q : Exit → Act → World → Prop) (l : List Oper) : List (List Nat × List Nat) → Act → World → Prop
  | [], a, w => Q .normal a w
  | s :: r, a, w => wpStill P ops w (fun a' => wpList P ops (SegQ (wpSegs P ops Q l r) Q) (pick l s.2) a' w) (pick l s.1) a

theorem letsOut_segQ {K' : Act → World → Prop} (h : LetsOut (SegQ K' Q)) : LetsOut Q := h

theorem wpOp_unseg {i : Nat} {K K' : Act → World → Prop} {a : Act} {w : World} (h : wpOp P ops (SegQ K' Q) i K a w) : wpOp P ops Q i K a w := by
  unfold wpOp at h ⊢
  split
  · rename_i ho; simp only [ho] at h; exact h
  · rename_i o ho
    simp only [ho] at h
    split
    · rename_i hw
      simp only [hw, if_true] at h
      rcases h with h | h
      · refine .inl ?_
        unfold Oper.wp at *
        generalize (execOp a.eval o).run P w = r at *
        cases r with
        | ok n w' =>
          cases n <;> simp only [Oper.upon] at h ⊢ <;> first
            | exact h
            | exact Calls.mono h (fun e w'' he => by cases e <;> exact he)
        | halt x w' => cases x <;> simp only [Oper.upon] at h ⊢ <;> exact h
      · exact .inr ⟨h.1, letsOut_segQ h.2⟩
    · rename_i hw; simp only [hw] at h; exact h

theorem wpAnyR_head {ts : List Nat} {F : Nat → Bool} {next : Array Bool → Bool} {n : Nat} {K : Act → Prop} {w : World} (hs : Region.noSelect ops = true)
    (hn : ∀ listed a, Closed md ops listed → (∀ j, j < ops.size → F j = false → listed.getD j false = true ∨ j ∈ ts) → next listed = true → K a → wpAnyR P md ops Q F n listed a w)
    (hQ : ∀ c a d v w, Q (.panic c) (Act.put a d v) w → Q (.panic c) a w) :
    ∀ (head : List Nat) (listed : Array Bool) (a : Act), (∀ i ∈ head, F i = true) → Closed md ops listed → (∀ j, j < ops.size → F j = false → listed.getD j false = true ∨ j ∈ ts) →
    headB md ops ts next head listed = true →
    wpStill P ops w K (pick ops.toList head) a → wpAnyR P md ops Q F (head.length + n) listed a w
  | [], listed, a, _, hcl, hcov, hB, h => by
    simp only [List.length_nil, Nat.zero_add]
    exact hn listed a hcl hcov (by simpa [headB] using hB) (by simpa [pick, wpStill] using h)
  | i :: r, listed, a, hF, hcl, hcov, hB, h => by
    simp only [headB, Bool.and_eq_true] at hB
    obtain ⟨⟨⟨hr, hf⟩, hk⟩, hB'⟩ := hB
    have hr' : i ∈ Region.ready md ops listed := by simpa using hr
    obtain ⟨hun, o, ho, _⟩ := mem_ready.1 hr'
    have hp : pick ops.toList (i :: r) = o :: pick ops.toList r := by
      have : ops.toList[i]? = some o := by simpa using ho
      exact List.filterMap_cons_some this
    rw [hp] at h
    have hst : stOp P ops w i (wpStill P ops w K (pick ops.toList r)) a := by unfold stOp; simp only [ho]; exact h
    obtain ⟨v, hy, hK⟩ := yieldsAt_of_stOp ho hst
    have hcov' : ∀ j, j < ops.size → F j = false → (listed.setIfInBounds i true).getD j false = true ∨ j ∈ ts := fun j hj hFj => (hcov j hj hFj).imp getD_set_true id
    have IH := wpAnyR_head hs hn hQ r (listed.setIfInBounds i true) (a.put o.dst v) (fun j hj => hF j (by simp [hj])) (hcl.set hr') hcov' hB' hK
    rw [List.length_cons, show r.length + 1 + n = (r.length + n) + 1 by omega]
    by_cases hm : muteKind o = true
    · have hy' : Yields P ops o v a := by
        rcases hy with ⟨h1, h2⟩ | h2
        · refine .inl ⟨h1, ?_⟩
          obtain ⟨u, hu⟩ := mute_run (P := P) hm a.eval
          have huv : u = v := by
            rcases h2 with h2 | ⟨h2, _⟩ | ⟨f, args, h2, _⟩
            · rw [hu w] at h2; injection h2 with h2; injection h2
            · rw [hu w] at h2; injection h2 with h2; cases h2
            · rw [hu w] at h2; injection h2 with h2; cases h2
          subst huv
          exact hu
        · exact .inr h2
      exact wpAnyR_mute ho (hF i (by simp)) (Region.noSelect_spec hs) (fun c a w => hQ c a o.dst v w) _ listed a w (Region.free_spec ho hf) hr' hy' IH
    · have hk' : ts.all (fun t => reachB md ops 8 t i) = true := by
        rw [ho] at hk
        simp only [Option.map_some, Option.getD_some, Bool.or_eq_true] at hk
        exact hk.resolve_left hm
      refine wpAnyR_still (base := listed) ho (hF i (by simp)) (Region.noSelect_spec hs) ?_ _ listed a w hcl (fun _ h => h) (Region.free_spec ho hf) hr' hy IH
      intro listed' hcl' hsup hi' j hj
      cases hFj : F j with
      | true => rfl
      | false =>
        obtain ⟨hjun, oj, hoj, _⟩ := mem_ready.1 hj
        rcases hcov j (Array.getElem?_eq_some_iff.1 hoj).1 hFj with hl | hjt
        · have h2 := getD_both hjun
          rw [hsup j hl] at h2
          cases h2
        · exact absurd hj (reachB_not hcl' (getD_both (mem_ready.1 hi').1) 8 j (List.all_eq_true.1 hk' j hjt)).2

theorem wpAnyR_segs {F : Nat → Bool} (hs : Region.noSelect ops = true) (hQ : ∀ c a d v w, Q (.panic c) (Act.put a d v) w → Q (.panic c) a w) :
    ∀ (segs : List (List Nat × List Nat)) (listed : Array Bool) (a : Act) (w : World), (∀ i ∈ headsOf segs, F i = true) → (∀ t ∈ tailsOf segs, F t = false) → Closed md ops listed →
    (∀ j, j < ops.size → F j = false → listed.getD j false = true ∨ j ∈ tailsOf segs) → segsB md ops segs listed = true →
    wpSegs P ops Q ops.toList segs a w → wpAnyR P md ops Q F (lenOf segs) listed a w
  | [], listed, a, w, _, _, _, _, hB, h => ⟨by simpa [segsB] using hB, h⟩
  | s :: r, listed, a, w, hh, ht, hcl, hcov, hB, h => by
    refine wpAnyR_head (ts := tailsOf (s :: r)) (K := fun a' => wpList P ops (SegQ (wpSegs P ops Q ops.toList r) Q) (pick ops.toList s.2) a' w) hs ?_ hQ s.1 listed a
      (fun i hi => hh i (by simp [headsOf, hi])) hcl hcov hB h
    intro listed' a' hcl' hcov' hB' hK
    -- what was a tail and is listed behind this segment
    have key : ∀ (tail : List Nat) (listed1 : Array Bool) (a1 : Act) (w1 : World), (∀ t ∈ tail, F t = false) → Closed md ops listed1 → (∀ j, j < ops.size → F j = false → listed1.getD j false = true ∨ j ∈ tail ∨ j ∈ tailsOf r) →
        tailB md ops (segsB md ops r) tail listed1 = true → wpList P ops (SegQ (wpSegs P ops Q ops.toList r) Q) (pick ops.toList tail) a1 w1 → wpAnyR P md ops Q F (tail.length + lenOf r) listed1 a1 w1 := by
      intro tail
      induction tail with
      | nil =>
        intro listed1 a1 w1 _ hc1 hv1 hb1 h1
        simp only [List.length_nil, Nat.zero_add]
        refine wpAnyR_segs hs hQ r listed1 a1 w1 (fun i hi => hh i (by simp only [headsOf, List.flatMap_cons, List.mem_append]; exact .inr hi)) (fun t htt => ht t (by simp only [tailsOf, List.flatMap_cons, List.mem_append]; exact .inr htt)) hc1 ?_ (by simpa [tailB] using hb1) (by simpa [pick, wpList, SegQ] using h1)
        intro j hj hFj
        rcases hv1 j hj hFj with h2 | h2 | h2
        · exact .inl h2
        · cases h2
        · exact .inr h2
      | cons t tl ih =>
        intro listed1 a1 w1 hF1 hc1 hv1 hb1 h1
        simp only [tailB, Bool.and_eq_true, decide_eq_true_eq] at hb1
        rw [List.length_cons, show tl.length + 1 + lenOf r = (tl.length + lenOf r) + 1 by omega]
        refine ⟨fun h2 => (by rw [hb1.1] at h2; cases h2), fun i hi => ?_⟩
        have hi0 := hi
        rw [hb1.1] at hi
        have hit : i = t := by simpa using hi
        subst hit
        obtain ⟨_, o, ho, _⟩ := mem_ready.1 hi0
        have hp : pick ops.toList (i :: tl) = o :: pick ops.toList tl := by
          have : ops.toList[i]? = some o := by simpa using ho
          exact List.filterMap_cons_some this
        rw [hp] at h1
        unfold stepR
        rw [hF1 i (by simp)]
        have hw : wpOp P ops (SegQ (wpSegs P ops Q ops.toList r) Q) i (wpList P ops (SegQ (wpSegs P ops Q ops.toList r) Q) (pick ops.toList tl)) a1 w1 := by unfold wpOp; simp only [ho]; exact h1
        refine wpOp_mono (fun a' w' h' => ih _ a' w' (fun t ht => hF1 t (by simp [ht])) (hc1.set hi0) ?_ hb1.2 h') (wpOp_unseg hw)
        intro j hj hFj
        rcases hv1 j hj hFj with h2 | h2 | h2
        · exact .inl (getD_set_true h2)
        · rcases List.mem_cons.1 h2 with h3 | h3
          · subst h3
            refine .inl ?_
            have hlt : j < listed1.size := by
              rcases Nat.lt_or_ge j listed1.size with h4 | h4
              · exact h4
              · have := (mem_ready.1 hi0).1
                simp [Array.getElem?_eq_none h4] at this
            simp [hlt]
          · exact .inr (.inl h3)
        · exact .inr (.inr h2)
    refine key s.2 listed' a' w (fun t htt => ht t (by simp only [tailsOf, List.flatMap_cons, List.mem_append]; exact .inl htt)) hcl' ?_ hB' hK
    intro j hj hFj
    rcases hcov' j hj hFj with h2 | h2
    · exact .inl h2
    · simp only [tailsOf, List.flatMap_cons, List.mem_append] at h2
      exact .inr h2

/-- A REGION THAT DRAWS, IN ONE ORDER: segment by segment, a segment's head only reads, its tail is forced. -/
theorem wp_region_segs {id : Nat} {a : Act} {w : World} {l : List Oper} (segs : List (List Nat × List Nat)) (hm : P.follows .mixedOrders = true) (hB : htB .any l.toArray segs = true)
    (hQ : ∀ c a d v w, Q (.panic c) (Act.put a d v) w → Q (.panic c) a w)
    (h : wpSegs P l.toArray Q l segs a w.drew) : (Code.region id l.toArray true).wp P Q a w := by
  simp only [htB, Bool.and_eq_true, decide_eq_true_eq] at hB
  obtain ⟨⟨⟨⟨hs, hlen⟩, hcov⟩, hdis⟩, hh⟩ := hB
  refine wp_region_any hm (wpAny_of_R (F := fun j => (headsOf segs).contains j) _ _ _ _ ?_)
  have H := fun h1 h2 h3 => wpAnyR_segs (P := P) (md := .any) (Q := Q) (F := fun j => (headsOf segs).contains j) hs hQ segs (Array.replicate l.toArray.size false) a w.drew (fun i hi => by simpa using hi) h1 h2 h3 hh (by simpa using h)
  rw [hlen] at H
  refine H ?_ ?_ ?_
  · intro t ht
    have := List.all_eq_true.1 hdis t ht
    simpa using this
  · intro j oj _ hl
    rw [getD_replicate_false] at hl
    cases hl
  · intro j hj hF
    refine .inr ?_
    have := List.all_eq_true.1 hcov j (List.mem_range.2 hj)
    simp only [Bool.or_eq_true] at this
    rcases this with h1 | h1
    · rw [hF] at h1; cases h1
    · simpa using h1

/-- One segment. -/
theorem wp_region_ht {id : Nat} {a : Act} {w : World} {l : List Oper} (head tail : List Nat) (hm : P.follows .mixedOrders = true) (hB : htB .any l.toArray [(head, tail)] = true)
    (hQ : ∀ c a d v w, Q (.panic c) (Act.put a d v) w → Q (.panic c) a w)
    (h : wpStill P l.toArray w.drew (fun a' => wpList P l.toArray Q (pick l tail) a' w.drew) (pick l head) a) : (Code.region id l.toArray true).wp P Q a w := by
  refine wp_region_segs [(head, tail)] hm hB hQ ?_
  have e : SegQ (wpSegs P l.toArray Q l []) Q = Q := by funext e a w; cases e <;> rfl
  unfold wpSegs
  rw [e]
  exact h

/-- What is quiet at one world is still there: so the quick steps of the quiet walk serve. -/
theorem wpStill_of_quiet {w : World} {Qs : Act → Prop} : ∀ {l : List Oper} {a : Act}, wpQuiet P ops (fun w' => w' = w) Qs l a → wpStill P ops w Qs l a
  | [], _, h => h
  | o :: l, a, h => by
    unfold wpQuiet at h
    unfold wpStill
    split
    · rename_i hw
      rw [if_pos hw] at h
      obtain ⟨v, hv, hn⟩ := h
      have h1 := hv w rfl
      unfold Oper.quietAt at h1
      unfold Oper.still
      generalize (execOp a.eval o).run P w = r at *
      cases r with
      | ok n w' =>
        cases n <;> simp only [Oper.quietUpon] at h1 <;> simp only [Oper.stillUpon]
        case value u => obtain ⟨h1, rfl⟩ := h1; exact ⟨h1, wpStill_of_quiet hn⟩
        case skip => obtain ⟨h1, rfl⟩ := h1; exact ⟨h1, wpStill_of_quiet hn⟩
        case enter f args => obtain ⟨rfl, h2⟩ := h1; exact ⟨rfl, v, h2, wpStill_of_quiet hn⟩
      | halt x w' => simp only [Oper.quietUpon] at h1
    · rename_i hw
      rw [if_neg hw] at h
      exact wpStill_of_quiet h
end
end Go.Proofs.Ytbebofneobfngaa
