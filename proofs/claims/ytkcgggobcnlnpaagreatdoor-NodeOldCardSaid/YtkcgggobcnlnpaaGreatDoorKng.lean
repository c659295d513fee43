/- A runner for closed calls, part 7: Ys Yt Yu Yv Yy Yz. -/
import Derived.Test.YtkcgggobcnlnpaaGreatDoorKnf
namespace Go.Proofs.YtkcgggobcnlnpaaGreatDoor.X
open Go.RowKit

def exCode : Ex → Code
  | .exit id => .exit id
  | .goto l => .goto l
  | _ => .ret
/-- Where a statement ends. -/
def Arr (P : Program) (m : Machine) (fb : Frame) (k : List Item) (cs : List Frame) : Ex → Act → World → Prop
  | .normal, A, w => Steps P m (lone (fb.atR A k) cs w)
  | .exit id, A, w => ∃ k1, exitTo id k1 = exitTo id k ∧ Steps P m (lone (fb.atR A (.code (.exit id) :: k1)) cs w)
  | .ret, A, w => ∃ k1, Steps P m (lone (fb.atR A (.code .ret :: k1)) cs w)
  | .goto _, _, _ => False
theorem Arr.of_steps {P : Program} {m m1 : Machine} {fb : Frame} {k : List Item} {cs : List Frame} {e : Ex} {A : Act} {w : World} (h : Steps P m m1) (h' : Arr P m1 fb k cs e A w) : Arr P m fb k cs e A w := by
  cases e with
  | normal => exact h.trans h'
  | exit id => obtain ⟨k1, h1, h2⟩ := h'; exact ⟨k1, h1, h.trans h2⟩
  | goto l => exact h'.elim
  | ret => obtain ⟨k1, h1⟩ := h'; exact ⟨k1, h.trans h1⟩
theorem Arr.pass {P : Program} {m : Machine} {fb : Frame} {x : Item} {k : List Item} {cs : List Frame} {e : Ex} {A : Act} {w : World} (hx : ∀ id, exitTo id (x :: k) = exitTo id k) (he : e ≠ .normal) (h : Arr P m fb (x :: k) cs e A w) : Arr P m fb k cs e A w := by
  cases e with
  | normal => exact absurd rfl he
  | exit id => obtain ⟨k1, h1, h2⟩ := h; exact ⟨k1, h1.trans (hx id), h2⟩
  | goto l => exact h.elim
  | ret => exact h

inductive DRel (ρ : Ren) : List Nat → List Deferred → Prop
  | nil : DRel ρ [] []
  | cons (i : Nat) (l : Loc) (d : List Nat) (ds : List Deferred) (h : ρ i = some l) (t : DRel ρ d ds) : DRel ρ (i :: d) ({ target := .collected l.blk, args := #[] } :: ds)
theorem DRel.mono {ρ ρ' : Ren} (k : ρ.Le ρ') : ∀ {d : List Nat} {ds : List Deferred}, DRel ρ d ds → DRel ρ' d ds
  | _, _, .nil => .nil
  | _, _, .cons i l d ds h t => .cons i l d ds (k _ _ h) (DRel.mono k t)
structure AcRel (ρ : Ren) (a : Ac) (A : Act) : Prop where
  size : A.tmps.size = a.n
  tmps : ∀ i, VRel ρ (ev a (.tmp i)) (A.tmps.getD i undef)
  defers : DRel ρ a.d A.defers
theorem AcRel.mono {ρ ρ' : Ren} (k : ρ.Le ρ') {a : Ac} {A : Act} (h : AcRel ρ a A) : AcRel ρ' a A := ⟨h.size, fun i => (h.tmps i).mono k, h.defers.mono k⟩
def RRel (ρ : Ren) : Option Nat → Option Nat → Prop
  | none, r => r = none
  | some l, r => ∃ k, ρ l = some k ∧ r = some k.blk
theorem RRel.mono {ρ ρ' : Ren} (k : ρ.Le ρ') {r r' : Option Nat} (h : RRel ρ r r') : RRel ρ' r r' := by
  cases r with
  | none => exact h
  | some l => obtain ⟨x, h1, h2⟩ := h; exact ⟨x, k _ _ h1, h2⟩

section
variable (P : Program) (G V : Nat)
def CodeOk (ih : Ih) : Prop := ∀ {fn : FuncId} {rnd : Option Nat} {c : Code} {a : Ac} {s : St} {e : Ex} {a2 : Ac} {s2 : St}, ih.code fn rnd c a s = .ok (e, a2) s2 →
  ∀ {b : Base} {ρ : Ren} {w : World} {A : Act} {rnd' : Option Nat}, (b.G, b.val) = (G, V) → WRel P b ρ s w → AcRel ρ a A → RRel ρ rnd rnd' →
  ∀ (fb : Frame) (k : List Item) (cs : List Frame), fb.fn = fn → fb.kind = .normal → fb.roundOf = rnd' →
  ∃ ρ' A' w', Ok P b ρ s ρ' s2 w' ∧ AcRel ρ' a2 A' ∧ Arr P (lone (fb.atR A (.code c :: k)) cs w) fb k cs e A' w'
def CallOk (ih : Ih) : Prop := ∀ {f : FuncId} {args : List Value} {s : St} {v : Value} {s2 : St}, ih.call f args s = .ok v s2 →
  ∀ {b : Base} {ρ : Ren} {w : World} {args' : List Value}, (b.G, b.val) = (G, V) → WRel P b ρ s w → LRel ρ args args' → ∀ cs : List Frame,
  ∃ ρ' v' w', Ok P b ρ s ρ' s2 w' ∧ VRel ρ' v v' ∧ ∃ fr, Steps P (lone (Frame.enter P f ⟨args'⟩ .normal) cs w) (lone fr cs w') ∧ fr.fn = f ∧ fr.leaving P w' (.returned v')
structure IhOk (ih : Ih) : Prop where
  code : CodeOk P G V ih
  call : CallOk P G V ih
end

/-- What an operation comes to. -/
def Gets (P : Program) (c : Frame) (cs : List Frame) (v' : Value) (w' : World) : Result Next → Prop
  | .ok (.value x) w1 => x = v' ∧ w1 = w'
  | .ok .skip w1 => v' = undef ∧ w1 = w'
  | .ok (.enter f args) w1 => ∃ fr, Steps P (lone (Frame.enter P f args .normal) (c :: cs) w1) (lone fr (c :: cs) w') ∧ fr.fn = f ∧ fr.leaving P w' (.returned v')
  | .ok (.round l f tmps assign body) w1 => Steps P (lone (Frame.round l f tmps assign body .normal) (c :: cs) w1) (lone (c.finish v') cs w')
  | _ => False

section
variable {P : Program} {b : Base} {ρ : Ren} {s : St} {w : World} {ih : Ih} {c : Frame} {cs : List Frame}
/-- An operation that may act. -/
def LOk (P : Program) (c : Frame) (cs : List Frame) (b : Base) (ρ : Ren) (s s' : St) (w : World) (v : Value) (x : Sem Next) : Prop := ∃ ρ' w' v', Ok P b ρ s ρ' s' w' ∧ VRel ρ' v v' ∧ Gets P c cs v' w' (x.run P w)
theorem LOk.of_e {s' : St} {v : Value} {x : Sem Value} (h : EOk P b ρ s s' w v x) : LOk P c cs b ρ s s' w v (do pure (Next.value (← x))) := by
  obtain ⟨ρ', w', v', h1, h2, h3⟩ := h
  exact ⟨ρ', w', v', h1, h2, by rw [run_v h3]; exact ⟨rfl, rfl⟩⟩
theorem LOk.of_n {v : Value} {x : Sem Next} (hw : WRel P b ρ s w) (h : NOk P ρ w v x) : LOk P c cs b ρ s s w v x := by
  obtain ⟨v', h1, h2⟩ := h
  exact ⟨ρ, w, v', .refl hw, h1, by rw [h2]; exact ⟨rfl, rfl⟩⟩

theorem undef_rel (ρ : Ren) : VRel ρ undef undef := .tuple _ _ .nil
theorem fold_tmps {n : Nat} : ∀ (ps : List (Tmp × Value)) (t : Tr Value) (ps' : List (Tmp × Value)) (A : Array Value), ps.map (·.1) = ps'.map (·.1) → (∀ i (h : i < ps.length) (h' : i < ps'.length), VRel ρ ps[i].2 ps'[i].2) → A.size = n →
    (∀ i, VRel ρ (match t.get i with | some v => v | none => undef) (A.getD i undef)) →
    (∀ i, VRel ρ (match (ps.foldl (fun t (p : Tmp × Value) => bif Nat.blt p.1 n then t.set p.1 p.2 else t) t).get i with | some v => v | none => undef) ((ps'.foldl (fun (A : Array Value) (p : Tmp × Value) => A.setIfInBounds p.1 p.2) A).getD i undef)) ∧
      (ps'.foldl (fun (A : Array Value) (p : Tmp × Value) => A.setIfInBounds p.1 p.2) A).size = n
  | [], t, ps', A, hk, _, hs, h => by
    cases ps' with
    | nil => exact ⟨h, hs⟩
    | cons _ _ => simp at hk
  | p :: ps, t, ps', A, hk, hv, hs, h => by
    cases ps' with
    | nil => simp at hk
    | cons q qs =>
      simp only [List.map_cons, List.cons.injEq] at hk
      simp only [List.foldl_cons]
      refine fold_tmps ps _ qs _ hk.2 (fun i h1 h2 => hv (i + 1) (by rw [List.length_cons]; omega) (by rw [List.length_cons]; omega)) (by simpa using hs) fun i => ?_
      have hv0 : VRel ρ p.2 q.2 := hv 0 (by simp) (by simp)
      rw [← hk.1]
      cases hb : Nat.blt p.1 n with
      | true =>
        have hlt : p.1 < n := Nat.le_of_ble_eq_true hb
        simp only [cond_true]
        rw [Tr.get_set]
        by_cases hi : i = p.1
        · subst hi
          rw [if_pos rfl]
          have : (A.setIfInBounds p.1 q.2).getD p.1 undef = q.2 := by simp [Array.getD, hs, hlt]
          rw [this]; exact hv0
        · rw [if_neg hi]
          have : (A.setIfInBounds p.1 q.2).getD i undef = A.getD i undef := by
            simp only [Array.getD_eq_getD_getElem?, Array.getElem?_setIfInBounds, if_neg (Ne.symm hi)]
          rw [this]; exact h i
      | false =>
        have hlt : n ≤ p.1 := Nat.le_of_not_lt fun h => by rw [show Nat.blt p.1 n = true from Nat.ble_eq_true_of_le h] at hb; cases hb
        have hA : A.size ≤ p.1 := by rw [hs]; exact hlt
        simp only [cond_false]
        have : A.setIfInBounds p.1 q.2 = A := by
          apply Array.ext_getElem?
          intro j
          rw [Array.getElem?_setIfInBounds]
          by_cases hj : p.1 = j
          · subst hj
            rw [if_pos rfl, if_neg (Nat.not_lt.2 hA), Array.getElem?_eq_none hA]
          · rw [if_neg hj]
        rw [this]; exact h i
theorem tree_get : ∀ (l : List Value) (k : Nat) (t : Tr Value) (i : Nat), (treeOf l k t).get i = if k ≤ i then (match l[i - k]? with | some v => some v | none => t.get i) else t.get i
  | [], k, t, i => by
    have : treeOf [] k t = t := rfl
    rw [this]; simp
  | v :: l, k, t, i => by
    have : treeOf (v :: l) k t = treeOf l (k + 1) (t.set k v) := rfl
    rw [this, tree_get l (k + 1) _ i, Tr.get_set]
    by_cases h1 : k + 1 ≤ i
    · have hne : i ≠ k := by omega
      have hle : k ≤ i := by omega
      rw [if_pos h1, if_neg hne, if_pos hle, show i - k = (i - (k + 1)) + 1 by omega, List.getElem?_cons_succ]
    · rw [if_neg h1]
      by_cases h2 : i = k
      · subst h2; simp
      · rw [if_neg h2, if_neg (by omega)]
theorem tree_rel {l l' : List Value} (h : LRel ρ l l') (n : Nat) (i : Nat) : VRel ρ (match (treeOf l 0 .nil).get i with | some v => v | none => undef) ((⟨l'⟩ ++ Array.replicate n undef : Array Value).getD i undef) := by
  rw [tree_get l 0 .nil i, if_pos (Nat.zero_le _), Nat.sub_zero]
  cases hi : l[i]? with
  | some v =>
    obtain ⟨v', h1, h2⟩ := h.get hi
    have hlt := (List.getElem?_eq_some_iff.1 h1).1
    have : (⟨l'⟩ ++ Array.replicate n undef : Array Value).getD i undef = v' := by
      rw [Array.getD_eq_getD_getElem?, Array.getElem?_append_left (by simpa using hlt)]
      simp [h1]
    rw [this]; exact h2
  | none =>
    have hge : l'.length ≤ i := by rw [← h.length]; exact List.getElem?_eq_none_iff.1 hi
    have : (⟨l'⟩ ++ Array.replicate n undef : Array Value).getD i undef = undef := by
      rw [Array.getD_eq_getD_getElem?, Array.getElem?_append_right (by simpa using hge), Array.getElem?_replicate]
      split <;> rfl
    rw [this]
    exact undef_rel ρ
end
end Go.Proofs.YtkcgggobcnlnpaaGreatDoor.X

namespace Go.Proofs.YtkcgggobcnlnpaaGreatDoor.X
open Go.RowKit

section
variable {P : Program} {b : Base} {ρ : Ren} {s : St} {w : World} {ih : Ih} {c : Frame} {cs : List Frame}

theorem loopOf_ok {l : Nat} {r : Loop} {k : Loc} (h : loopOf l s = some r) (hk : ρ l = some k) (hw : WRel P b ρ s w) : s.heap.get l = some (.obj (.loop r)) ∧ ∃ r', w.heap[k.blk]? = some (.loop r') ∧ LoopRel ρ r r' := by
  unfold loopOf at h
  cases hg : s.heap.get l with
  | none => rw [hg] at h; cases h
  | some o =>
    rw [hg] at h
    cases o <;> first | (cases h; done) | skip
    rename_i o
    cases o <;> first | (cases h; done) | skip
    injection h with h
    subst h
    obtain ⟨o', h1, _, r', rfl, h2⟩ := hw.heap _ _ _ hg (by simp) hk
    exact ⟨rfl, r', h1, h2⟩
theorem run_getLoop {g : Nat} {r : Loop} (h : w.heap[g]? = some (.loop r)) : (Instr.getLoop g).run P w = .ok r w := by
  simp [Instr.getLoop, getObj, Sem.run, h]
theorem run_setLoop {g : Nat} {r : Loop} (h : w.heap[g]? = some (.loop r)) (o : Obj) : (setObj g o).run P w = .ok () (setBlk w g o) := by
  simp [setObj, Sem.run, h, setBlk]
theorem liftR_ok {α β : Type} {r : Rs α} {k : α → St → Rs β} {v : β} {s' : St} (h : liftR r k = .ok v s') : ∃ a s1, r = .ok a s1 ∧ k a s1 = .ok v s' := by
  cases r with
  | ok a s1 => exact ⟨a, s1, rfl, h⟩
  | no _ _ => cases h

theorem doRound_ok (hih : IhOk P b.G b.val ih) {l : Nat} {args args' : List Value} {v : Value} {s' : St} {k : Loc} (h : doRound b.G ih l args s = .ok v s') (hl : ρ l = some k) (ha : LRel ρ args args') (hw : WRel P b ρ s w) :
    LOk P c cs b ρ s s' w v (Instr.yield k.blk ⟨args'⟩) := by
  unfold doRound at h
  cases hG : Nat.ble b.G l with
  | false => rw [hG] at h; cases h
  | true =>
    rw [hG] at h
    simp only [Bool.not_true, cond_false] at h
    have hG := Nat.le_of_ble_eq_true hG
    obtain ⟨r, hr, h⟩ := ofO_ok h
    obtain ⟨hg, r', h1, hrr⟩ := loopOf_ok hr hl hw
    cases hsz : Nat.beq (lenL args) (lenL r.params.toList) with
    | false => rw [hsz] at h; cases h
    | true =>
      rw [hsz] at h
      simp only [Bool.not_true, cond_false] at h
      have hsz := Nat.eq_of_beq_eq_true hsz
      rw [lenL_eq, lenL_eq] at hsz
      obtain ⟨⟨e1, ac⟩, s1, hc1, h⟩ := liftR_ok h
      cases e1 <;> first | (cases h; done) | skip
      obtain ⟨r2, hr2, h⟩ := ofO_ok h
      -- the variables of a round
      have hlen := ha.length
      have hps : r'.params.size = args'.length := by
        rw [hrr.params, ← hlen, hsz]; exact Array.length_toList.symm
      have hfold : (r'.params.zip ⟨args'⟩).foldl (fun (tmps : Array Value) (x : Tmp × Value) => tmps.setIfInBounds x.1 x.2) r'.tmps = (r.params.toList.zip args').foldl (fun (A : Array Value) (p : Tmp × Value) => A.setIfInBounds p.1 p.2) r'.tmps := by
        rw [← Array.foldl_toList, Array.toList_zip, hrr.params]
      have htz : r'.tmps.size = r.tmps.size := by
        have := hrr.tmps.length
        simpa using this.symm
      obtain ⟨f1, f2⟩ := fold_tmps (ρ := ρ) (n := r.tmps.size) (r.params.toList.zip args) (treeOf r.tmps.toList 0 .nil) (r.params.toList.zip args') r'.tmps
        (by rw [List.map_fst_zip (by omega), List.map_fst_zip (by omega)])
        (fun i h1 h2 => by
          have hi : i < args.length := by rw [List.length_zip] at h1; omega
          have hi' : i < args'.length := by omega
          obtain ⟨v', g1, g2⟩ := ha.get (List.getElem?_eq_getElem hi)
          have : args'[i] = v' := by rw [List.getElem?_eq_getElem hi'] at g1; exact Option.some.inj g1
          simp only [List.getElem_zip, this]
          exact g2)
        htz (fun i => by
          have := tree_rel (l' := r'.tmps.toList) hrr.tmps 0 i
          simpa using this)
      have hac : AcRel ρ { n := r.tmps.size, t := (r.params.toList.zip args).foldl (fun t (p : Tmp × Value) => bif Nat.blt p.1 r.tmps.size then t.set p.1 p.2 else t) (treeOf r.tmps.toList 0 .nil), d := [] } ⟨(r.params.toList.zip args').foldl (fun (A : Array Value) (p : Tmp × Value) => A.setIfInBounds p.1 p.2) r'.tmps, []⟩ := ⟨f2, f1, .nil⟩
      let fb : Frame := { (default : Frame) with fn := r.fn, kind := .normal, roundOf := some k.blk }
      obtain ⟨ρ1, A1, w1, o1, a1, g1⟩ := hih.code hc1 rfl hw hac (rnd' := some k.blk) ⟨k, hl, rfl⟩ fb [.beginRound, .code r.body] (c :: cs) rfl rfl rfl
      have hl1 := o1.le hw _ _ hl
      obtain ⟨hg2, r2', h2, hrr2⟩ := loopOf_ok hr2 hl1 o1.rel
      cases hst : r2.state <;> rw [hst] at h <;> first | (cases h; done) | skip
      obtain ⟨⟨e2, ac2⟩, s2, hc2, h⟩ := liftR_ok h
      dsimp only at h
      cases hd : ac2.d with
      | cons _ _ => rw [hd] at h; cases h
      | nil =>
        rw [hd] at h
        dsimp only at h
        obtain ⟨r3, hr3, h⟩ := ofO_ok h
        have hb : OORel ρ1 (.loop { r2 with state := .busy }) (.loop { r2' with state := .busy }) := ⟨_, rfl, { hrr2 with state := rfl }⟩
        have o2 := setObj_ok o1.rel hg2 hl1 hG hb
        obtain ⟨ρ3, A3, w3, o3, a3, g3⟩ := hih.code hc2 rfl o2.rel a1 (rnd' := some k.blk) ⟨k, hl1, rfl⟩ fb [] (c :: cs) rfl rfl rfl
        have hl3 := o3.le o2.rel _ _ hl1
        obtain ⟨hg3, r3', h3, hrr3⟩ := loopOf_ok hr3 hl3 o3.rel
        have o123 := (o1.trans o2).trans o3
        -- the steps up to the body's end
        have hbegin : (Instr.beginRound k.blk).run P w1 = .ok () (setBlk w1 k.blk (.loop { r2' with state := .busy })) := by
          simp [Instr.beginRound, run_getLoop h2, run_setLoop h2, hrr2.state, hst]
        have hyield : (Instr.yield k.blk ⟨args'⟩).run P w = .ok (.round k.blk r'.fn ((r.params.toList.zip args').foldl (fun (A : Array Value) (p : Tmp × Value) => A.setIfInBounds p.1 p.2) r'.tmps) r'.assign r'.body) w := by
          have hne : ¬ ((⟨args'⟩ : Array Value).size ≠ r'.params.size) := by show ¬ (args'.length ≠ r'.params.size); omega
          simp only [Instr.yield, Sem.run_bind, run_getLoop h1, Result.andThen_ok]
          rw [if_neg hne]
          simp only [Sem.run_pure]
          rw [← hfold]
        have hsteps : ∃ k1 A, (match e2 with | .normal => A = A3 | _ => A = A3) ∧
            Steps P (lone (Frame.round k.blk r'.fn ((r.params.toList.zip args').foldl (fun (A : Array Value) (p : Tmp × Value) => A.setIfInBounds p.1 p.2) r'.tmps) r'.assign r'.body .normal) (c :: cs) w)
              (lone (fb.atR A3 k1) (c :: cs) w3) ∧ (match e2 with | .normal => k1 = [] | .ret => ∃ k2, k1 = .code .ret :: k2 | .exit id => ∃ k2, k1 = .code (.exit id) :: k2 ∧ exitTo id k2 = none | .goto _ => False) := by
          have g2 : Steps P (lone (fb.atR A1 [.beginRound, .code r.body]) (c :: cs) w1) (lone (fb.atR A1 [.code r.body]) (c :: cs) (setBlk w1 k.blk (.loop { r2' with state := .busy }))) := .one (stepR_beginRound rfl hbegin)
          have g0 : lone (Frame.round k.blk r'.fn ((r.params.toList.zip args').foldl (fun (A : Array Value) (p : Tmp × Value) => A.setIfInBounds p.1 p.2) r'.tmps) r'.assign r'.body .normal) (c :: cs) w = lone (fb.atR ⟨(r.params.toList.zip args').foldl (fun (A : Array Value) (p : Tmp × Value) => A.setIfInBounds p.1 p.2) r'.tmps, []⟩ [.code r.assign, .beginRound, .code r.body]) (c :: cs) w := by
            rw [hrr.fn, hrr.assign, hrr.body]; rfl
          rw [g0]
          have g12 := Steps.trans g1 g2
          cases e2 with
          | normal => exact ⟨[], A3, rfl, g12.trans g3, rfl⟩
          | ret => obtain ⟨k2, g4⟩ := g3; exact ⟨_, A3, rfl, g12.trans g4, k2, rfl⟩
          | exit id => obtain ⟨k2, g5, g4⟩ := g3; exact ⟨_, A3, rfl, g12.trans g4, k2, rfl, g5⟩
          | goto l => exact g3.elim
        have fin : ∀ (jump : Option Code), (match e2 with | .normal => jump = none | .ret => jump = some .ret | .exit id => jump = some (.exit id) | .goto _ => False) →
            v = .bool jump.isNone → s' = setLoop s2 l { r3 with state := if jump.isNone then .ready else .done, pending := jump } → LOk P c cs b ρ s s' w v (Instr.yield k.blk ⟨args'⟩) := by
          intro jump hj hv hs'
          subst hv; subst hs'
          have hb3 : OORel ρ3 (.loop { r3 with state := if jump.isNone then .ready else .done, pending := jump }) (.loop { r3' with state := if jump.isNone then .ready else .done, pending := jump }) := ⟨_, rfl, { hrr3 with state := rfl, pending := rfl }⟩
          have o4 := setObj_ok o3.rel hg3 hl3 hG hb3
          have hend : (Instr.endRound k.blk jump).run P w3 = .ok (.bool jump.isNone) (setBlk w3 k.blk (.loop { r3' with state := if jump.isNone then .ready else .done, pending := jump })) := by
            simp only [Instr.endRound, Sem.run_bind, run_getLoop h3, Result.andThen_ok, run_setLoop h3, Sem.run_pure]
          refine ⟨ρ3, _, .bool jump.isNone, o123.trans o4, .bool _, ?_⟩
          rw [hyield]
          obtain ⟨k1, A, _, g1, g2⟩ := hsteps
          show Steps P _ _
          refine g1.trans (.one ?_)
          cases e2 with
          | normal =>
            rw [hj] at hend ⊢
            rw [g2]
            exact stepR_round_end rfl rfl hend
          | ret =>
            rw [hj] at hend ⊢
            obtain ⟨k2, g2⟩ := g2
            rw [g2]
            exact stepR_round_ret rfl rfl hend
          | exit id =>
            rw [hj] at hend ⊢
            obtain ⟨k2, g2, g3⟩ := g2
            rw [g2]
            exact stepR_round_exit rfl rfl g3 hend
          | goto l => exact hj.elim
        cases e2 with
        | normal => injection h with q1 q2; exact fin none rfl q1.symm (by rw [← q2]; rfl)
        | ret => injection h with q1 q2; exact fin (some .ret) rfl q1.symm (by rw [← q2]; rfl)
        | exit id => injection h with q1 q2; exact fin (some (.exit id)) rfl q1.symm (by rw [← q2]; rfl)
        | goto l => cases h
end
end Go.Proofs.YtkcgggobcnlnpaaGreatDoor.X

namespace Go.Proofs.YtkcgggobcnlnpaaGreatDoor.X
open Go.RowKit

section
variable {P : Program} {b : Base} {ρ : Ren} {s : St} {w : World} {ih : Ih} {c : Frame} {cs : List Frame}

theorem entersF_ok {f : FuncId} (h : entersF P f = true) (args : Array Value) (w : World) : (callFunc f args).run P w = .ok (.enter f args) w := by
  unfold entersF at h
  cases hf : P.funcs[f]? with
  | none => rw [hf] at h; cases h
  | some fn =>
    rw [hf] at h
    simp only [Bool.and_eq_true, Bool.not_eq_true'] at h
    have h1 : fn.body.isNone = false := by
      have := h.1
      cases hb : fn.body <;> rw [hb] at this <;> first | rfl | cases this
    have h2 : ¬ (fn.name == "runtime.NumGoroutine") = true := by rw [h.2]; simp
    simp only [callFunc, Sem.run_bind, run_program, Result.andThen_ok, hf]
    rw [if_neg h2, if_neg (by rw [h1]; simp)]
    rfl
theorem invoke_fn (f : FuncId) (cap args : Array Value) : invoke (.fn (.func f) cap) args = callFunc f (args ++ cap) := rfl
theorem invoke_yield (l : Nat) (cap args : Array Value) : invoke (.fn (.yield l) cap) args = Instr.yield l args := rfl

theorem doCallV_ok (hih : IhOk P b.G b.val ih) {fv fv' v : Value} {args args' : List Value} {s' : St} (h : doCallV P b.G ih fv args s = .ok v s') (hf : VRel ρ fv fv') (ha : LRel ρ args args') (hw : WRel P b ρ s w) :
    LOk P c cs b ρ s s' w v (do let d ← Deferred.ofValue fv' ⟨args'⟩; invoke d.target d.args) := by
  unfold doCallV at h
  split at h
  · rename_i f first captured
    cases hf with
    | func _ f' _ _ first' cap' hff hfi hca =>
      have e : f' = .func f := hff.symm
      subst e
      have hall : LRel ρ (appL first (appL args captured)) (first' ++ (args' ++ cap')) := by
        rw [appL_eq, appL_eq]; exact hfi.append (ha.append hca)
      have hrun : ((do let d ← Deferred.ofValue (.func (.func f) ⟨first'⟩ ⟨cap'⟩) ⟨args'⟩; invoke d.target d.args) : Sem Next) = callFunc f ⟨first' ++ (args' ++ cap')⟩ := by
        show invoke (.fn (.func f) ⟨cap'⟩) (⟨first'⟩ ++ ⟨args'⟩) = _
        rw [invoke_fn]
        congr 1
        apply Array.ext'
        simp
      rw [hrun]
      cases he : entersF P f with
      | true =>
        rw [he] at h
        simp only [cond_true] at h
        obtain ⟨ρ', v', w', g1, g2, g3⟩ := hih.call h rfl hw hall (c :: cs)
        exact ⟨ρ', w', v', g1, g2, by rw [entersF_ok he]; exact g3⟩
      | false =>
        rw [he] at h
        simp only [cond_false] at h
        unfold doExtern at h
        obtain ⟨h1, h⟩ := bif_ok h
        have e := flats_eq hall h1
        rw [e]
        cases hx : flatRun P (callFunc f ⟨appL first (appL args captured)⟩) with
        | none => rw [hx] at h; cases h
        | some n =>
          rw [hx] at h
          cases n <;> first | (cases h; done) | skip
          dsimp only at h
          obtain ⟨h2, h⟩ := bif_ok h
          injection h with e1 e2
          subst e1; subst e2
          exact ⟨ρ, w, _, .refl hw, flat_refl ρ h2, by rw [flat_run _ hx]; exact ⟨rfl, rfl⟩⟩
  · rename_i l first cap
    cases hf with
    | func _ f' _ b1 first' cap' hff hfi hca =>
      obtain ⟨k, hk, rfl⟩ := hff
      have hall : LRel ρ (appL first args) (first' ++ args') := by rw [appL_eq]; exact hfi.append ha
      have hrun : ((do let d ← Deferred.ofValue (.func (.yield k.blk) ⟨first'⟩ ⟨cap'⟩) ⟨args'⟩; invoke d.target d.args) : Sem Next) = Instr.yield k.blk ⟨first' ++ args'⟩ := by
        show invoke (.fn (.yield k.blk) ⟨cap'⟩) (⟨first'⟩ ++ ⟨args'⟩) = _
        rw [invoke_yield]
        congr 1
        apply Array.ext'
        simp
      rw [hrun]
      exact doRound_ok hih h hk hall hw
  · cases h

theorem LOk.of_u {s' : St} {x : Sem Unit} (h : ∃ w', Ok P b ρ s ρ s' w' ∧ x.run P w = .ok () w') : LOk P c cs b ρ s s' w undef (do x; pure Next.skip) := by
  obtain ⟨w', h1, h2⟩ := h
  exact ⟨ρ, w', undef, h1, undef_rel ρ, by rw [run_u h2]; exact ⟨rfl, rfl⟩⟩

/-- ANY OPERATION. -/
theorem oper_ok (hih : IhOk P b.G b.val ih) {a : Ac} {e' : Operand → Value} {o : Oper} {v : Value} {s' : St} (h : oper P b.G ih a o s = .ok v s') (hx : OpsRel ρ a e' o) (hw : WRel P b ρ s w) :
    LOk P c cs b ρ s s' w v (execOp e' o) ∧ ∀ c, o.op ≠ .defer c := by
  have hnd : ∀ c, o.op ≠ .defer c := fun c hc => by
    unfold oper at h
    rw [hc] at h
    cases h
  refine ⟨?_, hnd⟩
  have hk : opKind P o = 0 ∨ opKind P o = 1 ∨ opKind P o = 2 ∨ opKind P o = 3 := by
    unfold opKind
    repeat' split
    all_goals simp
  rcases hk with hk | hk | hk | hk
  · obtain ⟨rfl, h2⟩ := quiet0_ok (w := w) hk h hx
    exact .of_n hw h2
  · obtain ⟨rfl, h2⟩ := quiet1_ok hk h hx hw
    exact .of_n hw h2
  · obtain ⟨cs, e, lo, rfl, h2⟩ := made_ok hk h
    obtain ⟨w1, o', cap, v', hw1, h3, h4⟩ := h2 ρ w e' hx
    have hw1' : WRel P b ρ s w1 := by rcases hw1 with rfl | rfl; exact hw; exact hw.drew
    have hsz : w1.heap.size = w.heap.size := by rcases hw1 with rfl | rfl <;> rfl
    have g := hw1'.new cap (o1 := .row cs e lo) (o' := o') fun ρ' hle hid => by
      rw [hsz] at hid ⊢
      exact (h4 ρ' hle hid).1
    rw [hsz] at g
    refine ⟨_, _, v', g, (h4 _ (upd_le hw _) (upd_self _ _ _)).2, ?_⟩
    rw [h3]
    exact ⟨rfl, rfl⟩
  · have h0 := h
    unfold OpsRel at hx
    unfold oper at h
    unfold opKind at hk
    cases ho : o.op <;> rw [ho] at h hx hk <;> first | (cases hk; done) | (cases h; done) | skip
    case store t p x =>
      simp only [Op.operands, List.mem_cons, List.not_mem_nil, or_false, forall_eq_or_imp, forall_eq] at hx
      obtain ⟨rfl, g⟩ := doStore_ok h hx.1 hx.2 hw
      unfold execOp
      rw [ho]
      exact .of_u g
    case lookup t x k ok =>
      simp only [Op.operands, List.mem_cons, List.not_mem_nil, or_false, forall_eq_or_imp, forall_eq] at hx
      obtain ⟨rfl, g⟩ := doLookup_ok h hx.1 hx.2 hw
      unfold execOp
      rw [ho]
      exact .of_n hw (.of g)
    case mapUpdate t m k x =>
      simp only [Op.operands, List.mem_cons, List.not_mem_nil, or_false, forall_eq_or_imp, forall_eq] at hx
      obtain ⟨rfl, g⟩ := doMapUpdate_ok h hx.1 hx.2.1 hx.2.2 hw
      unfold execOp
      rw [ho]
      exact .of_u g
    case insert t m k x =>
      simp only [Op.operands, List.mem_cons, List.not_mem_nil, or_false, forall_eq_or_imp, forall_eq] at hx
      obtain ⟨rfl, g⟩ := doMapUpdate_ok h hx.1 hx.2.1 hx.2.2 hw
      unfold execOp
      rw [ho]
      exact .of_u g
    case makeMap t r =>
      have g := doMakeMap_ok h (opt_rel (o := r) fun x hr => hx x (by simp [Op.operands, hr])) hw
      unfold execOp
      rw [ho]
      exact .of_e g
    case range t x =>
      simp only [Op.operands, List.mem_cons, List.not_mem_nil, or_false, forall_eq] at hx
      have g := doRangeOp_ok h hx hw
      unfold execOp
      rw [ho]
      exact .of_e g
    case next it st =>
      simp only [Op.operands, List.mem_cons, List.not_mem_nil, or_false, forall_eq] at hx
      have g := doNextOp_ok (ty := o.type) h hx hw
      unfold execOp
      rw [ho]
      exact .of_e g
    case entry it =>
      simp only [Op.operands, List.mem_cons, List.not_mem_nil, or_false, forall_eq] at hx
      have g := doEntry_ok h hx hw
      unfold execOp
      rw [ho]
      exact .of_e g
    case convert src dst x =>
      exfalso
      dsimp only at hk
      split at hk <;> cases hk
    case call c' =>
      obtain ⟨callee, args, ts⟩ := c'
      have ha : LRel ρ (args.toList.map (ev a)) (args.toList.map e') := LRel.map_ _ fun x hxm => hx x (by
        simp only [Op.operands, Call.operands]
        simp [Array.mem_toList_iff.1 hxm])
      have hae := args_eq e' args
      cases callee with
      | invoke _ _ => cases h
      | value f =>
        have hf : VRel ρ (ev a f) (e' f) := hx f (by simp [Op.operands, Call.operands])
        have g := doCallV_ok (c := c) (cs := cs) hih (s := s) (w := w) (fv := ev a f) (v := v) (s' := s') h hf ha hw
        unfold execOp
        rw [ho]
        have : ((do let d ← resolve e' ⟨.value f, args, ts⟩ o.type; invoke d.target d.args) : Sem Next) = (do let d ← Deferred.ofValue (e' f) ⟨args.toList.map e'⟩; invoke d.target d.args) := by
          unfold resolve
          rw [hae]
        show LOk P c cs b ρ s s' w v (do let d ← resolve e' ⟨.value f, args, ts⟩ o.type; invoke d.target d.args)
        rw [this]
        exact g
      | builtin bi =>
        have hres : ∀ {x : Sem Value}, builtin bi ts o.type (args.map fun | .const _ => true | _ => false) ⟨args.toList.map e'⟩ = (do pure (Next.value (← x))) → EOk P b ρ s s' w v x → LOk P c cs b ρ s s' w v (execOp e' o) := fun {x} hb hE => by
          have : execOp e' o = (do pure (Next.value (← x))) := by
            unfold execOp
            rw [ho, ← hb, ← hae]
            rfl
          rw [this]
          exact .of_e hE
        cases bi <;> first | (cases hk; done) | (cases h; done) | skip
        case append => exact hres rfl (doAppend_ok (ty := o.type) h ha hw)
        case copy => exact hres rfl (doCopy_ok (ty := o.type) h ha hw)
        case clear => exact hres rfl (doClear_ok (ty := o.type) h ha hw)
        case delete => exact hres rfl (doDelete_ok (ty := o.type) h ha hw)
end
end Go.Proofs.YtkcgggobcnlnpaaGreatDoor.X

namespace Go.Proofs.YtkcgggobcnlnpaaGreatDoor.X
open Go.RowKit

section
variable {P : Program} {b : Base} {ρ : Ren} {s : St} {w : World} {ih : Ih}

/-- A MACHINE'S STEPS AT AN OPERATION. -/
theorem step_op {ops : Array Oper} {i : Nat} {rest : List Nat} {o : Oper} {fb : Frame} {A : Act} {k : List Item} {cs : List Frame} {w w' : World} {v' : Value} (ho : ops[i]? = some o) (hw : Region.wanted o (yielded ops A.tmps) = true) (hnd : ∀ c, o.op ≠ .defer c)
    (h : Gets P (fb.atR A (.inRegion ops (i :: rest) :: k)) cs v' w' ((execOp A.eval o).run P w)) : Steps P (lone (fb.atR A (.inRegion ops (i :: rest) :: k)) cs w) (lone (fb.atR (A.put o.dst v') (.inRegion ops rest :: k)) cs w') := by
  have hg := stepGR_op (P := P) (b := fb) (a := A) (k := k) (cs := cs) (w := w) (rest := rest) ho hw
  rw [Oper.semAt_eq _ _ _ hnd] at hg
  have hfin : ∀ v, (fb.atR A (.inRegion ops (i :: rest) :: k)).finish v = fb.atR (A.put o.dst v) (.inRegion ops rest :: k) := by
    intro v; rw [Frame.finish_atR, ho]; rfl
  cases hr : (execOp A.eval o).run P w with
  | halt x w1 => rw [hr] at h; cases x <;> exact h.elim
  | ok n w1 =>
    rw [hr] at h
    cases n <;> first | exact h.elim | skip
    case value x =>
      obtain ⟨rfl, rfl⟩ := h
      refine .one (step_lone_go ?_)
      rw [hg, ← hfin]; simp [stepG.apply, hr]
    case skip =>
      obtain ⟨rfl, rfl⟩ := h
      refine .one (step_lone_go ?_)
      rw [hg, ← hfin]; simp [stepG.apply, hr]
    case enter f args =>
      obtain ⟨fr, g1, g2, g3⟩ := h
      have henter : step P (lone (fb.atR A (.inRegion ops (i :: rest) :: k)) cs w) = .next (lone (Frame.enter P f args .normal) (fb.atR A (.inRegion ops (i :: rest) :: k) :: cs) w1) :=
        step_lone_go (by rw [hg]; simp [stepG.apply, hr, Frame.atR])
      refine .head henter (g1.trans (.one ?_))
      rw [← hfin]; exact step_leave_returned g3
    case round l f tmps assign body =>
      have henter : step P (lone (fb.atR A (.inRegion ops (i :: rest) :: k)) cs w) = .next (lone (Frame.round l f tmps assign body .normal) (fb.atR A (.inRegion ops (i :: rest) :: k) :: cs) w1) :=
        step_lone_go (by rw [hg]; simp [stepG.apply, hr, Frame.atR])
      refine .head henter ?_
      rw [← hfin]; exact h

theorem put_rel {a : Ac} {A : Act} (h : AcRel ρ a A) (dst : Option Tmp) {v v' : Value} (hv : VRel ρ v v') : AcRel ρ (put a dst v) (A.put dst v') := by
  cases dst with
  | none => exact h
  | some d =>
    have hsz := h.size
    unfold put Act.put
    dsimp only
    cases hb : Nat.blt d a.n with
    | true =>
      have hlt : d < a.n := Nat.le_of_ble_eq_true hb
      simp only [cond_true]
      refine ⟨by simpa using hsz, fun i => ?_, h.defers⟩
      have hi := h.tmps i
      unfold ev at hi ⊢
      dsimp only at hi ⊢
      rw [Tr.get_set]
      by_cases hid : i = d
      · subst hid
        rw [if_pos rfl]
        have : (A.tmps.setIfInBounds i v').getD i undef = v' := by simp [Array.getD, hsz, hlt]
        rw [this]; exact hv
      · rw [if_neg hid]
        have : (A.tmps.setIfInBounds d v').getD i undef = A.tmps.getD i undef := by
          simp only [Array.getD_eq_getD_getElem?, Array.getElem?_setIfInBounds, if_neg (Ne.symm hid)]
        rw [this]; exact hi
    | false =>
      have hge : a.n ≤ d := Nat.le_of_not_lt fun h => by rw [show Nat.blt d a.n = true from Nat.ble_eq_true_of_le h] at hb; cases hb
      simp only [cond_false]
      have : A.tmps.setIfInBounds d v' = A.tmps := by
        apply Array.ext_getElem?
        intro j
        rw [Array.getElem?_setIfInBounds]
        by_cases hj : d = j
        · subst hj
          rw [if_pos rfl, if_neg (by rw [hsz]; exact Nat.not_lt.2 hge), Array.getElem?_eq_none (by rw [hsz]; exact hge)]
        · rw [if_neg hj]
      rw [this]
      exact h
theorem bool_back {v : Value} {c : Bool} (h : VRel ρ v (.bool c)) : v = .bool c := by
  cases h with
  | bool => rfl
  | txt _ _ hk => rcases TOk.forms hk with ⟨b, e⟩ | ⟨x, e⟩ | e | ⟨t, u, e⟩ <;> cases e
  | sstr i n l _ hl hv => rcases sv_forms n l.sh with ⟨b, e⟩ | ⟨_, _, e⟩ <;> (rw [e] at hv; cases hv)
/-- The guard, by what it looks at. -/
theorem wants_ok {ops : Array Oper} {a : Ac} {tmps : Array Value} {o : Oper} (h : ∀ j want g d, o.guard = some (j, want) → ops[j]? = some g → g.dst = some d → VRel ρ (ev a (.tmp d)) (tmps.getD d undef)) : wants ops.toList a o = Region.wanted o (yielded ops tmps) := by
  unfold wants Region.wanted
  cases hg : o.guard with
  | none => rfl
  | some p =>
    obtain ⟨j, want⟩ := p
    dsimp only
    rw [nth_eq]
    unfold yielded
    cases hj : ops[j]? with
    | none => simp [hj]
    | some g =>
      have : ops.toList[j]? = some g := by simpa using hj
      rw [this]
      dsimp only
      cases hd : g.dst with
      | none => simp [hd]
      | some d =>
        dsimp only
        have hv := h j want g d hg hj hd
        simp only [Option.bind_some, hd]
        unfold ev at hv
        dsimp only at hv
        rw [Array.getD_eq_getD_getElem?] at hv
        cases ht : tmps[d]? with
        | none =>
          rw [ht] at hv
          cases hat : a.t.get d with
          | none => rfl
          | some v =>
            rw [hat] at hv
            dsimp only at hv
            cases v <;> first | rfl | (exfalso; cases hv)
        | some v' =>
          rw [ht] at hv
          cases hat : a.t.get d with
          | none =>
            rw [hat] at hv
            dsimp only [Option.getD_some] at hv
            cases v' <;> first | rfl | (exfalso; cases hv)
          | some v =>
            rw [hat] at hv
            dsimp only [Option.getD_some] at hv
            cases hv <;> first | rfl | (rename_i i n l hl hs; rcases sv_forms n l.sh with ⟨b, e⟩ | ⟨_, _, e⟩ <;> (rw [e] at hs; subst hs; rfl)) | (rename_i hk; rcases TOk.forms hk with ⟨b, rfl⟩ | ⟨x, rfl⟩ | rfl | ⟨t, u, rfl⟩ <;> rfl) | (simp; done) | skip
            all_goals (rename_i c; cases c <;> cases want <;> rfl)
theorem eval_ok {a : Ac} {A : Act} (hw : WRel P b ρ s w) (h : AcRel ρ a A) {x : Operand} (hx : opFlat b.G x = true) : VRel ρ (ev a x) (A.eval x) := by
  cases x with
  | tmp t => exact h.tmps t
  | const v => exact flat_refl ρ hx
  | global g =>
    have hlt : g + 1 < b.G := Nat.le_of_ble_eq_true hx
    exact .ptr _ _ ⟨rfl, _, hw.globU hlt, by simp⟩
  | func f => exact .func _ _ _ _ _ _ rfl .nil .nil
theorem regOk_ops {ops : List Oper} (h : regOk b.G ops = true) {o : Oper} (ho : o ∈ ops) : ∀ x ∈ o.op.operands.toList, opFlat b.G x = true := by
  unfold regOk at h
  rw [List.all_eq_true] at h
  have := h o ho
  rw [List.all_eq_true] at this
  exact this

/-- A region in its text's order. -/
theorem opsRun_ok (hih : IhOk P b.G b.val ih) {ops : Array Oper} (hreg : regOk b.G ops.toList = true) : ∀ (l : List Oper) (i : Nat), ops.toList.drop i = l → ∀ {a : Ac} {s : St} {e : Ex} {a2 : Ac} {s2 : St}, opsRun P b.G ih ops.toList l a s = .ok (e, a2) s2 →
    ∀ {ρ : Ren} {w : World} {A : Act}, WRel P b ρ s w → AcRel ρ a A → ∀ (fb : Frame) (k : List Item) (cs : List Frame),
    ∃ ρ' A' w', Ok P b ρ s ρ' s2 w' ∧ AcRel ρ' a2 A' ∧ e = .normal ∧ Steps P (lone (fb.atR A (.inRegion ops (List.range' i l.length) :: k)) cs w) (lone (fb.atR A' k) cs w')
  | [], i, _, a, s, e, a2, s2, h, ρ, w, A, hw, ha, fb, k, cs => by
    injection h with h1 h2
    injection h1 with h1 h3
    subst h1; subst h2; subst h3
    exact ⟨ρ, A, w, .refl hw, ha, rfl, .one stepR_region_end⟩
  | o :: l, i, hl, a, s, e, a2, s2, h, ρ, w, A, hw, ha, fb, k, cs => by
    have h' : (bif wants ops.toList a o then liftR (oper P b.G ih a o s) fun v s => opsRun P b.G ih ops.toList l (put a o.dst v) s else opsRun P b.G ih ops.toList l (put a o.dst undef) s) = .ok (e, a2) s2 := h
    have hoi : ops.toList[i]? = some o := by
      have := congrArg (fun x => x[0]?) hl
      simpa [List.getElem?_drop] using this
    have hoi' : ops[i]? = some o := by simpa using hoi
    have hl' : ops.toList.drop (i + 1) = l := by
      have := congrArg List.tail hl
      simpa [List.tail_drop] using this
    have hwt := wants_ok (ρ := ρ) (ops := ops) (a := a) (tmps := A.tmps) (o := o) fun _ _ _ d _ _ _ => ha.tmps d
    have hrng : List.range' i (o :: l).length = i :: List.range' (i + 1) l.length := by rw [List.length_cons, List.range'_succ]
    cases hwb : wants ops.toList a o with
    | true =>
      rw [hwb] at h' hwt
      simp only [cond_true] at h'
      obtain ⟨v, s1, h1, h2⟩ := liftR_ok h'
      obtain ⟨⟨ρ1, w1, v', g1, g2, g3⟩, hnd⟩ := oper_ok hih h1 (e' := A.eval) (fun x hxm => eval_ok hw ha (regOk_ops hreg (List.mem_of_getElem? hoi) x hxm)) hw (c := fb.atR A (.inRegion ops (i :: List.range' (i + 1) l.length) :: k)) (cs := cs)
      obtain ⟨ρ2, A2, w2, q1, q2, q3, q4⟩ := opsRun_ok hih hreg l (i + 1) hl' h2 g1.rel (put_rel (ha.mono (g1.le hw)) o.dst g2) fb k cs
      refine ⟨ρ2, A2, w2, g1.trans q1, q2, q3, ?_⟩
      rw [hrng]
      exact (step_op hoi' hwt.symm hnd g3).trans q4
    | false =>
      rw [hwb] at h' hwt
      simp only [cond_false] at h'
      obtain ⟨ρ2, A2, w2, q1, q2, q3, q4⟩ := opsRun_ok hih hreg l (i + 1) hl' h' hw (put_rel ha o.dst (undef_rel ρ)) fb k cs
      refine ⟨ρ2, A2, w2, q1, q2, q3, ?_⟩
      rw [hrng]
      have hst := stepR_op_skip (P := P) (b := fb) (a := A) (k := k) (cs := cs) (w := w) (ops := ops) (i := i) (rest := List.range' (i + 1) l.length) (by simp [hoi', ← hwt])
      simp only [hoi', Option.bind_some] at hst
      exact .head hst q4
end
end Go.Proofs.YtkcgggobcnlnpaaGreatDoor.X

namespace Go.Proofs.YtkcgggobcnlnpaaGreatDoor.X
open Go.RowKit

section
variable {P : Program} {ih : Ih}

/-- A region that draws its order (to be shown apart). -/
def DrawOk (P : Program) (G : Nat) : Prop := ∀ {V : Nat} {ih : Ih}, IhOk P G V ih → ∀ {id : Nat} {ops : Array Oper} {pl : List Stage} {a : Ac} {s : St} {e : Ex} {a2 : Ac} {s2 : St}, regOk G ops.toList = true → planOf P ops.toList = some pl → stagesRun P G ih ops.toList (preOf ops.toList) pl [] a s = .ok (e, a2) s2 →
  ∀ {b : Base} {ρ : Ren} {w : World} {A : Act}, (b.G, b.val) = (G, V) → WRel P b ρ s w → AcRel ρ a A → ∀ (fn : FuncId) (fb : Frame) (k : List Item) (cs : List Frame), fb.fn = fn →
  ∃ ρ' A' w', Ok P b ρ s ρ' s2 w' ∧ AcRel ρ' a2 A' ∧ e = .normal ∧ Steps P (lone (fb.atR A (.code (.region id ops true) :: k)) cs w) (lone (fb.atR A' k) cs w')

theorem exitTo_plain' {x : Item} (hx : x.plain = true) (id : Nat) (k : List Item) : exitTo id (x :: k) = exitTo id k := by cases x <;> simp_all [exitTo, Item.plain]

theorem marks_ok {b : Base} : ∀ (l : List Nat) {s : St} {ρ : Ren} {w : World} {ds : List Deferred} {s2 : St}, marksRun l s = .ok () s2 → (∀ i ∈ l, b.G ≤ i) → WRel P b ρ s w → DRel ρ l ds →
    ∃ w', Ok P b ρ s ρ s2 w' ∧ ∀ (fr : Frame) (cs : List Frame), fr.mode = .returning → Steps P (lone { fr with defers := ds } cs w) (lone { fr with defers := [] } cs w')
  | [], s, ρ, w, ds, s2, h, _, hw, hd => by
    injection h with h1 h2
    subst h2
    cases hd
    exact ⟨w, .refl hw, fun fr cs _ => .refl _ _⟩
  | i :: l, s, ρ, w, ds, s2, h, hG, hw, hd => by
    cases hd with
    | cons _ k _ ds' hk ht =>
      have h' : (match s.heap.get i with | some (.obj (.deferred (some []))) => marksRun l (setObjA s i (.deferred none)) | _ => .no 141 0) = .ok () s2 := h
      split at h'
      · rename_i hg
        obtain ⟨o', h1, h2, h3⟩ := hw.heap _ _ _ hg (by simp) hk
        have h3 : o' = .deferred (some []) := h3
        subst h3
        have o1 := setObj_ok hw hg hk (hG i (by simp)) (o1 := .deferred none) (o1' := .deferred none) rfl
        obtain ⟨w', o2, st⟩ := marks_ok l h' (fun j hj => hG j (by simp [hj])) o1.rel ht
        refine ⟨w', o1.trans o2, fun fr cs hm => ?_⟩
        have hrun : (Instr.takeDeferred k.blk).run P w = .ok [] (setBlk w k.blk (.deferred none)) := by
          simp [Instr.takeDeferred, getObj, setObj, Sem.run, h1, setBlk]
        refine .head (m₁ := lone { fr with defers := ds' } cs (setBlk w k.blk (.deferred none))) (step_lone_go ?_) (st fr cs hm)
        obtain ⟨f1, f2, f3, f4, f5, f6, f7⟩ := fr
        dsimp only at hm
        subst hm
        simp [stepG, unwind, Sem.runT_eq, hrun]
      · cases h'

theorem vals_ok {b : Base} {a : Ac} {A : Act} : ∀ (l : List ResultVar) {s : St} {ρ : Ren} {w : World} {vs : List Value} {s2 : St}, valsRun P a l s = .ok vs s2 → WRel P b ρ s w → AcRel ρ a A →
    s2 = s ∧ ∃ vs', LRel ρ vs vs' ∧ (l.mapM (fun r => (match r with | .tmp t => pure (A.tmps.getD t undef) | .cell p t => do loadVar t (← asAddr (A.tmps.getD p undef)) : Sem Value))).run P w = .ok vs' w
  | [], s, ρ, w, vs, s2, h, hw, ha => by
    injection h with h1 h2
    subst h1; subst h2
    exact ⟨rfl, [], .nil, by simp⟩
  | .tmp t :: l, s, ρ, w, vs, s2, h, hw, ha => by
    have h' : liftR (valsRun P a l s) (fun vs s => Rs.ok (ev a (.tmp t) :: vs) s) = .ok vs s2 := h
    obtain ⟨vs1, s1, h1, h2⟩ := liftR_ok h'
    injection h2 with e1 e2
    subst e1; subst e2
    obtain ⟨rfl, vs', g1, g2⟩ := vals_ok l h1 hw ha
    exact ⟨rfl, _, .cons _ _ _ _ (ha.tmps t) g1, by simp only [List.mapM_cons, Sem.run_bind, g2, Result.andThen_ok, Sem.run_pure]⟩
  | .cell p t :: l, s, ρ, w, vs, s2, h, hw, ha => by
    have h' : liftR (doLoad P t (ev a (.tmp p)) s) (fun v s => liftR (valsRun P a l s) fun vs s => Rs.ok (v :: vs) s) = .ok vs s2 := h
    obtain ⟨v, s1, h1, h2⟩ := liftR_ok h'
    obtain ⟨vs1, s3, h3, h4⟩ := liftR_ok h2
    injection h4 with e1 e2
    subst e1; subst e2
    have hp := ha.tmps p
    obtain ⟨rfl, v', g1, g2⟩ := doLoad_ok h1 hp hw
    obtain ⟨rfl, vs', g3, g4⟩ := vals_ok l h3 hw ha
    refine ⟨rfl, _, .cons _ _ _ _ g1 g3, ?_⟩
    have g5 : ((do loadVar t (← asAddr (A.tmps.getD p undef))) : Sem Value).run P w = .ok v' w := by
      generalize A.tmps.getD p undef = q at hp g2 ⊢
      generalize ev a (.tmp p) = q0 at hp h1
      cases hp <;> first | (cases h1; done) | skip
      simpa [Instr.loadAt, Instr.sureAddr, asAddr] using g2
    rw [List.mapM_cons, Sem.run_bind]
    show Result.andThen (((do loadVar t (← asAddr (A.tmps.getD p undef))) : Sem Value).run P w) _ = _
    rw [g5]
    simp only [Result.andThen_ok, Sem.run_bind, g4, Sem.run_pure]

theorem leave_ok {b : Base} {fn : Func} {a : Ac} {A : Act} {s : St} {ρ : Ren} {w : World} {v : Value} {s2 : St} (h : doLeave P b.G fn a s = .ok v s2) (hw : WRel P b ρ s w) (ha : AcRel ρ a A) :
    ∃ v' w', Ok P b ρ s ρ s2 w' ∧ VRel ρ v v' ∧ (results fn A.tmps).run P w' = .ok v' w' ∧ ∀ (fr : Frame) (cs : List Frame), fr.mode = .returning → Steps P (lone { fr with defers := A.defers } cs w) (lone { fr with defers := [] } cs w') := by
  unfold doLeave at h
  obtain ⟨hG, h⟩ := bif_ok h
  obtain ⟨_, s1, h1, h⟩ := liftR_ok h
  obtain ⟨vs, s3, h2, h⟩ := liftR_ok h
  injection h with e1 e2
  subst e1; subst e2
  obtain ⟨w1, o1, st⟩ := marks_ok a.d h1 (fun i hi => by
    rw [List.all_eq_true] at hG
    exact Nat.le_of_ble_eq_true (hG i hi)) hw ha.defers
  obtain ⟨rfl, vs', g1, g2⟩ := vals_ok fn.results.toList h2 o1.rel ha
  have hlen := g1.length
  refine ⟨if h : vs'.length = 1 then vs'[0] else .tuple ⟨vs'⟩, w1, o1, ?_, ?_, st⟩
  · cases g1 with
    | nil => exact .tuple _ _ .nil
    | cons v v' l l' hv ht =>
      cases ht with
      | nil => exact hv
      | cons u u' m m' hu hm => exact .tuple _ _ (.cons _ _ _ _ hv (.cons _ _ _ _ hu hm))
  · unfold results
    rw [Array.mapM_eq_mapM_toList]
    simp only [Sem.run_bind, Sem.run_map]
    erw [g2]
    simp only [Result.andThen_ok]
    by_cases hl : vs'.length = 1
    · simp [hl]
    · simp [hl]
end
end Go.Proofs.YtkcgggobcnlnpaaGreatDoor.X

namespace Go.Proofs.YtkcgggobcnlnpaaGreatDoor.X
open Go.RowKit

section
variable {P : Program} {ih : Ih}

def inLoopF (fb : Frame) (A : Act) (l : Nat) (k : List Item) (ds : List Deferred) : Frame := { fn := fb.fn, tmps := A.tmps, todo := .inRangeFunc l :: k, defers := ds, mode := .run, kind := fb.kind, roundOf := none }
theorem step_range {fb : Frame} {A : Act} {k : List Item} {cs : List Frame} {w w2 : World} {v' : Value} {f : Operand} {params : Array Tmp} {assign body : Code} (hr : fb.roundOf = none)
    (h : Gets P (inLoopF fb A (w.heap.size + 1) k ({ target := .collected w.heap.size, args := #[] } :: A.defers)) cs v' w2 ((do let d ← Deferred.ofValue (A.eval f) #[.func (.yield (w.heap.size + 1)) #[] #[]]; invoke d.target d.args : Sem Next).run P
      ((w.alloc (.deferred (some []))).alloc (.loop { state := .ready, pending := none, fn := fb.fn, tmps := A.tmps, params, assign, body, defers := w.heap.size })))) :
    Steps P (lone (fb.atR A (.code (.rangeFunc f params assign body) :: k)) cs w) (lone (fb.atR ⟨A.tmps, { target := .collected w.heap.size, args := #[] } :: A.defers⟩ (.endRangeFunc (w.heap.size + 1) :: k)) cs w2) := by
  have hent : (Instr.enterLoop fb.fn A.tmps params assign body none).run P w = .ok (w.heap.size + 1, [{ target := .collected w.heap.size, args := #[] }]) ((w.alloc (.deferred (some []))).alloc (.loop { state := .ready, pending := none, fn := fb.fn, tmps := A.tmps, params, assign, body, defers := w.heap.size })) := by
    simp [Instr.enterLoop]
  generalize hw1 : (w.alloc (.deferred (some []))).alloc (.loop { state := .ready, pending := none, fn := fb.fn, tmps := A.tmps, params, assign, body, defers := w.heap.size }) = w1 at h hent
  generalize hmk : ({ target := .collected w.heap.size, args := #[] } : Deferred) = mk at h hent ⊢
  generalize w.heap.size + 1 = l at h hent ⊢
  have hev : ∀ x : Operand, Frame.eval (inLoopF fb A l k (mk :: A.defers)) x = A.eval x := fun x => by cases x <;> rfl
  have hres : (do let d ← resolve (Frame.eval (inLoopF fb A l k (mk :: A.defers))) { callee := .value f, args := #[.const (.func (.yield l) #[] #[])], argTypes := #[] } 0; invoke d.target d.args : Sem Next) = (do let d ← Deferred.ofValue (A.eval f) #[.func (.yield l) #[] #[]]; invoke d.target d.args) := by
    unfold resolve
    simp only [hev, List.map_toArray, List.map_cons, List.map_nil]
    rfl
  have hg : (stepG P true { frame := fb.atR A (.code (.rangeFunc f params assign body) :: k), callers := cs, status := .running, dying := none } w).bare =
      (stepG.apply P true (inLoopF fb A l k (mk :: A.defers)) cs none (do let d ← Deferred.ofValue (A.eval f) #[.func (.yield l) #[] #[]]; invoke d.target d.args) w1).bare := by
    rw [← hres]
    obtain ⟨f1, f2, f3, f4, f5, f6, f7⟩ := fb
    dsimp only at hr
    subst hr
    simp only [stepG, stepG.exec, Frame.atR, Sem.runT_eq, inLoopF] at hent ⊢
    rw [hent]
    simp only [GStep.bare_after, List.cons_append, List.nil_append]
  have hback : fb.atR ⟨A.tmps, mk :: A.defers⟩ (.endRangeFunc l :: k) = (inLoopF fb A l k (mk :: A.defers)).finish v' := by
    unfold Frame.atR inLoopF Frame.finish
    rw [hr]
  have hkind : (match (inLoopF fb A l k (mk :: A.defers)).todo with | .call _ true _ _ :: _ => CallKind.wrapped | _ => .normal) = .normal := rfl
  rw [hback]
  generalize hq : (do let d ← Deferred.ofValue (A.eval f) #[.func (.yield l) #[] #[]]; invoke d.target d.args : Sem Next) = q at h hg
  cases hrun : q.run P w1 with
  | halt x w3 => rw [hrun] at h; cases x <;> exact h.elim
  | ok n w3 =>
    rw [hrun] at h
    cases n <;> first | exact h.elim | skip
    case value x =>
      obtain ⟨rfl, rfl⟩ := h
      exact .one (step_lone_go (by rw [hg]; simp [stepG.apply, hrun]))
    case skip =>
      obtain ⟨rfl, rfl⟩ := h
      exact .one (step_lone_go (by rw [hg]; simp [stepG.apply, hrun]))
    case enter fn args =>
      obtain ⟨fr, g1, g2, g3⟩ := h
      have henter : step P (lone (fb.atR A (.code (.rangeFunc f params assign body) :: k)) cs w) = .next (lone (Frame.enter P fn args .normal) (inLoopF fb A l k (mk :: A.defers) :: cs) w3) :=
        step_lone_go (by rw [hg]; simp [stepG.apply, hrun, inLoopF])
      exact .head henter (g1.trans (.one (step_leave_returned g3)))
    case round l2 fn tmps assign2 body2 =>
      have henter : step P (lone (fb.atR A (.code (.rangeFunc f params assign body) :: k)) cs w) = .next (lone (Frame.round l2 fn tmps assign2 body2 .normal) (inLoopF fb A l k (mk :: A.defers) :: cs) w3) :=
        step_lone_go (by rw [hg]; simp [stepG.apply, hrun, inLoopF])
      exact .head henter h
theorem step_endRange {fb : Frame} {A : Act} {k : List Item} {cs : List Frame} {w w2 : World} {l : Nat} {jump : Option Code} (h : (Instr.endLoop l).run P w = .ok jump w2) :
    step P (lone (fb.atR A (.endRangeFunc l :: k)) cs w) = .next (lone (fb.atR A ((jump.map Item.code).toList ++ k)) cs w2) :=
  step_lone_go (by simp [stepG, stepG.exec, Frame.atR, Sem.runT_eq, h])

theorem arr_rel {ρ : Ren} {a : Ac} {A : Act} (h : AcRel ρ a A) : LRel ρ (arrOf a.n a.t) A.tmps.toList := by
  refine LRel.of_get (by simp [arrOf, h.size]) fun i v hv => ?_
  unfold arrOf at hv
  rw [List.getElem?_map] at hv
  cases hr : (List.range a.n)[i]? with
  | none => rw [hr] at hv; cases hv
  | some j =>
    rw [hr] at hv
    obtain ⟨hj, hj2⟩ := List.getElem?_eq_some_iff.1 hr
    rw [List.getElem_range] at hj2
    subst hj2
    injection hv with hv
    subst hv
    have hlt : i < A.tmps.size := by rw [h.size]; simpa using hj
    refine ⟨A.tmps[i], by simp [hlt], ?_⟩
    have := h.tmps i
    have e : A.tmps.getD i undef = A.tmps[i] := by simp [Array.getD, hlt]
    rw [e] at this
    exact this

theorem range_ok {b : Base} (hih : IhOk P b.G b.val ih) {fn : FuncId} {rnd rnd' : Option Nat} {f : Operand} {params : Array Tmp} {assign body : Code} {a a2 : Ac} {s s2 : St} {e : Ex} {ρ : Ren} {w : World} {A : Act}
    (h : doRange P b.G ih fn rnd f params assign body a s = .ok (e, a2) s2) (hf : opFlat b.G f = true) (hw : WRel P b ρ s w) (ha : AcRel ρ a A) (hr : RRel ρ rnd rnd') (fb : Frame) (k : List Item) (cs : List Frame) (hfn : fb.fn = fn) (_hfk : fb.kind = .normal) (hro : fb.roundOf = rnd') :
    ∃ ρ' A' w', Ok P b ρ s ρ' s2 w' ∧ AcRel ρ' a2 A' ∧ Arr P (lone (fb.atR A (.code (.rangeFunc f params assign body) :: k)) cs w) fb k cs e A' w' := by
  unfold doRange at h
  cases rnd with
  | some _ => cases h
  | none =>
    have hr : rnd' = none := hr
    subst hr
    dsimp only at h
    obtain ⟨o1, _, d1⟩ := newObj_ok hw (o := .deferred (some [])) (o' := .deferred (some [])) fun ρ' _ => rfl
    have ha1 := ha.mono (o1.le hw)
    obtain ⟨o2, _, d2⟩ := newObj_ok o1.rel (o := .loop { state := .ready, pending := none, fn, tmps := ⟨arrOf a.n a.t⟩, params, assign, body, defers := s.next })
      (o' := .loop { state := .ready, pending := none, fn, tmps := A.tmps, params, assign, body, defers := w.heap.size }) fun ρ' hle => ⟨_, rfl, ⟨rfl, rfl, rfl, rfl, rfl, rfl, arr_rel (ha1.mono hle), ⟨_, hle _ _ d1, rfl⟩⟩⟩
    have ha2 := ha1.mono (o2.le o1.rel)
    have hsz : (w.alloc (.deferred (some []))).heap.size = w.heap.size + 1 := by simp
    rw [hsz] at o2 d2 ha2
    generalize hρ2 : ((ρ.upd s.next ⟨w.heap.size, 0, 0⟩).upd (newObjA (.deferred (some [])) s).next ⟨w.heap.size + 1, 0, 0⟩) = ρ2 at o2 d2 ha2
    have d1' : ρ2 s.next = some ⟨w.heap.size, 0, 0⟩ := by rw [← hρ2]; exact (by have := o2.le o1.rel; rw [hρ2] at *; exact this _ _ d1)
    obtain ⟨v, s3, h1, h⟩ := liftR_ok h
    obtain ⟨r, hr, h⟩ := ofO_ok h
    have hfv : VRel ρ2 (ev { a with d := s.next :: a.d } f) (A.eval f) := by
      have := eval_ok (o1.trans o2).rel (A := A) (a := a) ha2 hf
      cases f <;> exact this
    have hy : VRel ρ2 (.func (.yield (newObjA (.deferred (some [])) s).next) #[] #[]) (.func (.yield (w.heap.size + 1)) #[] #[]) := .func _ _ _ _ _ _ ⟨_, d2, rfl⟩ .nil .nil
    obtain ⟨ρ3, w3, v', o3, _, g3⟩ := doCallV_ok hih h1 hfv (.cons _ _ _ _ hy .nil) o2.rel (c := inLoopF fb A (w.heap.size + 1) k ({ target := .collected w.heap.size, args := #[] } :: A.defers)) (cs := cs)
    have d2' := o3.le o2.rel _ _ d2
    have d1'' := o3.le o2.rel _ _ d1'
    obtain ⟨hg, r', q1, q2⟩ := loopOf_ok hr d2' o3.rel
    have hG : b.G ≤ (newObjA (.deferred (some [])) s).next := Nat.le_succ_of_le hw.base
    have o123 := (o1.trans o2).trans o3
    have ha3 : AcRel ρ3 { a with d := s.next :: a.d } ⟨A.tmps, { target := .collected w.heap.size, args := #[] } :: A.defers⟩ := by
      have := ha2.mono (o3.le o2.rel)
      exact ⟨this.size, fun i => this.tmps i, .cons _ ⟨w.heap.size, 0, 0⟩ _ _ d1'' this.defers⟩
    have hst : r.state ≠ .busy := by
      intro hb
      rw [hb] at h
      cases h
    have o4 := setObj_ok o3.rel hg d2' hG (o1 := .loop { r with state := .exhausted }) (o1' := .loop { r' with state := .exhausted }) ⟨_, rfl, { q2 with state := rfl }⟩
    have hend : (Instr.endLoop (w.heap.size + 1)).run P w3 = .ok r.pending (setBlk w3 (w.heap.size + 1) (.loop { r' with state := .exhausted })) := by
      have q1' : w3.heap[w.heap.size + 1]? = some (.loop r') := q1
      have hne : ¬ (r'.state == .busy) = true := by rw [q2.state]; simpa using hst
      simp only [Instr.endLoop, Sem.run_bind, run_getLoop q1', Result.andThen_ok]
      rw [if_neg hne]
      simp only [Sem.run_bind, Sem.run_pure, Result.andThen_ok, run_setLoop q1', q2.pending]
    have hsteps : Steps P (lone (fb.atR A (.code (.rangeFunc f params assign body) :: k)) cs w)
        (lone (fb.atR ⟨A.tmps, { target := .collected w.heap.size, args := #[] } :: A.defers⟩ ((r.pending.map Item.code).toList ++ k)) cs (setBlk w3 (w.heap.size + 1) (.loop { r' with state := .exhausted }))) := by
      subst hfn
      exact (step_range hro g3).trans (.one (step_endRange hend))
    have h' : (match r.pending with
        | none => Rs.ok (Ex.normal, { a with d := s.next :: a.d }) (setLoop s3 (newObjA (.deferred (some [])) s).next { r with state := .exhausted })
        | some .ret => .ok (.ret, { a with d := s.next :: a.d }) (setLoop s3 (newObjA (.deferred (some [])) s).next { r with state := .exhausted })
        | some (.exit id) => .ok (.exit id, { a with d := s.next :: a.d }) (setLoop s3 (newObjA (.deferred (some [])) s).next { r with state := .exhausted })
        | _ => .no 145 0) = .ok (e, a2) s2 := by
      cases hs : r.state <;> rw [hs] at h <;> first | exact h | exact absurd hs hst
    cases hp : r.pending with
    | none =>
      rw [hp] at h' hsteps o4
      injection h' with e1 e2
      injection e1 with e1 e3
      subst e1; subst e2; subst e3
      exact ⟨ρ3, _, _, o123.trans o4, ha3, hsteps⟩
    | some c =>
      rw [hp] at h' hsteps o4
      cases c <;> first | (cases h'; done) | skip
      case ret =>
        injection h' with e1 e2
        injection e1 with e1 e3
        subst e1; subst e2; subst e3
        exact ⟨ρ3, _, _, o123.trans o4, ha3, ⟨k, hsteps⟩⟩
      case exit id =>
        injection h' with e1 e2
        injection e1 with e1 e3
        subst e1; subst e2; subst e3
        exact ⟨ρ3, _, _, o123.trans o4, ha3, ⟨k, rfl, hsteps⟩⟩
end
end Go.Proofs.YtkcgggobcnlnpaaGreatDoor.X
