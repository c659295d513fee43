/- A runner for closed calls, part 8: Yu Yv Yy Yz Za Zb. -/
import Derived.Test.YtdhkebolenbpiaaGreatDoorKng
import Derived.Orders
namespace Go.Proofs.YtdhkebolenbpiaaGreatDoor.X
open Go.RowKit

section
variable {P : Program} {b : Base} {ρ : Ren} {s : St} {w : World} {ih : Ih} {c : Frame} {cs : List Frame}

theorem entersF_ok {f : FuncId} (h : entersF P f = true) (args : Array Value) (w : World) : (callFunc f args).run P w = .ok (.enter f args) w := by
  unfold entersF at h
  cases hf : P.funcs[f]? with
  | none => rw [hf] at h; cases h
  | some fn =>
    rw [hf] at h
    simp only [Bool.and_eq_true, Bool.not_eq_true'] at h
    have h1 : fn.body.isNone = false := by
      have := h.1
      cases hb : fn.body <;> rw [hb] at this <;> first | rfl | cases this
    have h2 : ¬ (fn.name == "runtime.NumGoroutine") = true := by rw [h.2]; simp
    simp only [callFunc, Sem.run_bind, run_program, Result.andThen_ok, hf]
    rw [if_neg h2, if_neg (by rw [h1]; simp)]
    rfl
theorem invoke_fn (f : FuncId) (cap args : Array Value) : invoke (.fn (.func f) cap) args = callFunc f (args ++ cap) := rfl
theorem invoke_yield (l : Nat) (cap args : Array Value) : invoke (.fn (.yield l) cap) args = Instr.yield l args := rfl

theorem doCallV_ok (hih : IhOk P b.G b.val ih) {fv fv' v : Value} {args args' : List Value} {s' : St} (h : doCallV P b.G ih fv args s = .ok v s') (hf : VRel ρ fv fv') (ha : LRel ρ args args') (hw : WRel P b ρ s w) :
    LOk P c cs b ρ s s' w v (do let d ← Deferred.ofValue fv' ⟨args'⟩; invoke d.target d.args) := by
  unfold doCallV at h
  split at h
  · rename_i f first captured
    cases hf with
    | func _ f' _ _ first' cap' hff hfi hca =>
      have e : f' = .func f := hff.symm
      subst e
      have hall : LRel ρ (appL first (appL args captured)) (first' ++ (args' ++ cap')) := by
        rw [appL_eq, appL_eq]; exact hfi.append (ha.append hca)
      have hrun : ((do let d ← Deferred.ofValue (.func (.func f) ⟨first'⟩ ⟨cap'⟩) ⟨args'⟩; invoke d.target d.args) : Sem Next) = callFunc f ⟨first' ++ (args' ++ cap')⟩ := by
        show invoke (.fn (.func f) ⟨cap'⟩) (⟨first'⟩ ++ ⟨args'⟩) = _
        rw [invoke_fn]
        congr 1
        apply Array.ext'
        simp
      rw [hrun]
      cases he : entersF P f with
      | true =>
        rw [he] at h
        simp only [cond_true] at h
        obtain ⟨ρ', v', w', g1, g2, g3⟩ := hih.call h rfl hw hall (c :: cs)
        exact ⟨ρ', w', v', g1, g2, by rw [entersF_ok he]; exact g3⟩
      | false =>
        rw [he] at h
        simp only [cond_false] at h
        unfold doExtern at h
        obtain ⟨h1, h⟩ := bif_ok h
        have e := flats_eq hall h1
        rw [e]
        cases hx : flatRun P (callFunc f ⟨appL first (appL args captured)⟩) with
        | none => rw [hx] at h; cases h
        | some n =>
          rw [hx] at h
          cases n <;> first | (cases h; done) | skip
          dsimp only at h
          obtain ⟨h2, h⟩ := bif_ok h
          injection h with e1 e2
          subst e1; subst e2
          exact ⟨ρ, w, _, .refl hw, flat_refl ρ h2, by rw [flat_run _ hx]; exact ⟨rfl, rfl⟩⟩
  · rename_i l first cap
    cases hf with
    | func _ f' _ b1 first' cap' hff hfi hca =>
      obtain ⟨k, hk, rfl⟩ := hff
      have hall : LRel ρ (appL first args) (first' ++ args') := by rw [appL_eq]; exact hfi.append ha
      have hrun : ((do let d ← Deferred.ofValue (.func (.yield k.blk) ⟨first'⟩ ⟨cap'⟩) ⟨args'⟩; invoke d.target d.args) : Sem Next) = Instr.yield k.blk ⟨first' ++ args'⟩ := by
        show invoke (.fn (.yield k.blk) ⟨cap'⟩) (⟨first'⟩ ++ ⟨args'⟩) = _
        rw [invoke_yield]
        congr 1
        apply Array.ext'
        simp
      rw [hrun]
      exact doRound_ok hih h hk hall hw
  · cases h

theorem LOk.of_u {s' : St} {x : Sem Unit} (h : ∃ w', Ok P b ρ s ρ s' w' ∧ x.run P w = .ok () w') : LOk P c cs b ρ s s' w undef (do x; pure Next.skip) := by
  obtain ⟨w', h1, h2⟩ := h
  exact ⟨ρ, w', undef, h1, undef_rel ρ, by rw [run_u h2]; exact ⟨rfl, rfl⟩⟩

/-- ANY OPERATION. -/
theorem oper_ok (hih : IhOk P b.G b.val ih) {a : Ac} {e' : Operand → Value} {o : Oper} {v : Value} {s' : St} (h : oper P b.G ih a o s = .ok v s') (hx : OpsRel ρ a e' o) (hw : WRel P b ρ s w) :
    LOk P c cs b ρ s s' w v (execOp e' o) ∧ ∀ c, o.op ≠ .defer c := by
  have hnd : ∀ c, o.op ≠ .defer c := fun c hc => by
    unfold oper at h
    rw [hc] at h
    cases h
  refine ⟨?_, hnd⟩
  have hk : opKind P o = 0 ∨ opKind P o = 1 ∨ opKind P o = 2 ∨ opKind P o = 3 := by
    unfold opKind
    repeat' split
    all_goals simp
  rcases hk with hk | hk | hk | hk
  · obtain ⟨rfl, h2⟩ := quiet0_ok (w := w) hk h hx
    exact .of_n hw h2
  · obtain ⟨rfl, h2⟩ := quiet1_ok hk h hx hw
    exact .of_n hw h2
  · obtain ⟨cs, e, lo, rfl, h2⟩ := made_ok hk h
    obtain ⟨w1, o', cap, v', hw1, h3, h4⟩ := h2 ρ w e' hx
    have hw1' : WRel P b ρ s w1 := by rcases hw1 with rfl | rfl; exact hw; exact hw.drew
    have hsz : w1.heap.size = w.heap.size := by rcases hw1 with rfl | rfl <;> rfl
    have g := hw1'.new cap (o1 := .row cs e lo) (o' := o') fun ρ' hle hid => by
      rw [hsz] at hid ⊢
      exact (h4 ρ' hle hid).1
    rw [hsz] at g
    refine ⟨_, _, v', g, (h4 _ (upd_le hw _) (upd_self _ _ _)).2, ?_⟩
    rw [h3]
    exact ⟨rfl, rfl⟩
  · have h0 := h
    unfold OpsRel at hx
    unfold oper at h
    unfold opKind at hk
    cases ho : o.op <;> rw [ho] at h hx hk <;> first | (cases hk; done) | (cases h; done) | skip
    case store t p x =>
      simp only [Op.operands, List.mem_cons, List.not_mem_nil, or_false, forall_eq_or_imp, forall_eq] at hx
      obtain ⟨rfl, g⟩ := doStore_ok h hx.1 hx.2 hw
      unfold execOp
      rw [ho]
      exact .of_u g
    case lookup t x k ok =>
      simp only [Op.operands, List.mem_cons, List.not_mem_nil, or_false, forall_eq_or_imp, forall_eq] at hx
      obtain ⟨rfl, g⟩ := doLookup_ok h hx.1 hx.2 hw
      unfold execOp
      rw [ho]
      exact .of_n hw (.of g)
    case mapUpdate t m k x =>
      simp only [Op.operands, List.mem_cons, List.not_mem_nil, or_false, forall_eq_or_imp, forall_eq] at hx
      obtain ⟨rfl, g⟩ := doMapUpdate_ok h hx.1 hx.2.1 hx.2.2 hw
      unfold execOp
      rw [ho]
      exact .of_u g
    case insert t m k x =>
      simp only [Op.operands, List.mem_cons, List.not_mem_nil, or_false, forall_eq_or_imp, forall_eq] at hx
      obtain ⟨rfl, g⟩ := doMapUpdate_ok h hx.1 hx.2.1 hx.2.2 hw
      unfold execOp
      rw [ho]
      exact .of_u g
    case makeMap t r =>
      have g := doMakeMap_ok h (opt_rel (o := r) fun x hr => hx x (by simp [Op.operands, hr])) hw
      unfold execOp
      rw [ho]
      exact .of_e g
    case range t x =>
      simp only [Op.operands, List.mem_cons, List.not_mem_nil, or_false, forall_eq] at hx
      have g := doRangeOp_ok h hx hw
      unfold execOp
      rw [ho]
      exact .of_e g
    case next it st =>
      simp only [Op.operands, List.mem_cons, List.not_mem_nil, or_false, forall_eq] at hx
      have g := doNextOp_ok (ty := o.type) h hx hw
      unfold execOp
      rw [ho]
      exact .of_e g
    case entry it =>
      simp only [Op.operands, List.mem_cons, List.not_mem_nil, or_false, forall_eq] at hx
      have g := doEntry_ok h hx hw
      unfold execOp
      rw [ho]
      exact .of_e g
    case convert src dst x =>
      exfalso
      dsimp only at hk
      split at hk <;> cases hk
    case call c' =>
      obtain ⟨callee, args, ts⟩ := c'
      have ha : LRel ρ (args.toList.map (ev a)) (args.toList.map e') := LRel.map_ _ fun x hxm => hx x (by
        simp only [Op.operands, Call.operands]
        simp [Array.mem_toList_iff.1 hxm])
      have hae := args_eq e' args
      cases callee with
      | invoke _ _ => cases h
      | value f =>
        have hf : VRel ρ (ev a f) (e' f) := hx f (by simp [Op.operands, Call.operands])
        have g := doCallV_ok (c := c) (cs := cs) hih (s := s) (w := w) (fv := ev a f) (v := v) (s' := s') h hf ha hw
        unfold execOp
        rw [ho]
        have : ((do let d ← resolve e' ⟨.value f, args, ts⟩ o.type; invoke d.target d.args) : Sem Next) = (do let d ← Deferred.ofValue (e' f) ⟨args.toList.map e'⟩; invoke d.target d.args) := by
          unfold resolve
          rw [hae]
        show LOk P c cs b ρ s s' w v (do let d ← resolve e' ⟨.value f, args, ts⟩ o.type; invoke d.target d.args)
        rw [this]
        exact g
      | builtin bi =>
        have hres : ∀ {x : Sem Value}, builtin bi ts o.type (args.map fun | .const _ => true | _ => false) ⟨args.toList.map e'⟩ = (do pure (Next.value (← x))) → EOk P b ρ s s' w v x → LOk P c cs b ρ s s' w v (execOp e' o) := fun {x} hb hE => by
          have : execOp e' o = (do pure (Next.value (← x))) := by
            unfold execOp
            rw [ho, ← hb, ← hae]
            rfl
          rw [this]
          exact .of_e hE
        cases bi <;> first | (cases hk; done) | (cases h; done) | skip
        case append => exact hres rfl (doAppend_ok (ty := o.type) h ha hw)
        case copy => exact hres rfl (doCopy_ok (ty := o.type) h ha hw)
        case clear => exact hres rfl (doClear_ok (ty := o.type) h ha hw)
        case delete => exact hres rfl (doDelete_ok (ty := o.type) h ha hw)
end
end Go.Proofs.YtdhkebolenbpiaaGreatDoor.X

namespace Go.Proofs.YtdhkebolenbpiaaGreatDoor.X
open Go.RowKit

section
variable {P : Program} {b : Base} {ρ : Ren} {s : St} {w : World} {ih : Ih}

/-- A MACHINE'S STEPS AT AN OPERATION. -/
theorem step_op {ops : Array Oper} {i : Nat} {rest : List Nat} {o : Oper} {fb : Frame} {A : Act} {k : List Item} {cs : List Frame} {w w' : World} {v' : Value} (ho : ops[i]? = some o) (hw : Region.wanted o (yielded ops A.tmps) = true) (hnd : ∀ c, o.op ≠ .defer c)
    (h : Gets P (fb.atR A (.inRegion ops (i :: rest) :: k)) cs v' w' ((execOp A.eval o).run P w)) : Steps P (lone (fb.atR A (.inRegion ops (i :: rest) :: k)) cs w) (lone (fb.atR (A.put o.dst v') (.inRegion ops rest :: k)) cs w') := by
  have hg := stepGR_op (P := P) (b := fb) (a := A) (k := k) (cs := cs) (w := w) (rest := rest) ho hw
  rw [Oper.semAt_eq _ _ _ hnd] at hg
  have hfin : ∀ v, (fb.atR A (.inRegion ops (i :: rest) :: k)).finish v = fb.atR (A.put o.dst v) (.inRegion ops rest :: k) := by
    intro v; rw [Frame.finish_atR, ho]; rfl
  cases hr : (execOp A.eval o).run P w with
  | halt x w1 => rw [hr] at h; cases x <;> exact h.elim
  | ok n w1 =>
    rw [hr] at h
    cases n <;> first | exact h.elim | skip
    case value x =>
      obtain ⟨rfl, rfl⟩ := h
      refine .one (step_lone_go ?_)
      rw [hg, ← hfin]; simp [stepG.apply, hr]
    case skip =>
      obtain ⟨rfl, rfl⟩ := h
      refine .one (step_lone_go ?_)
      rw [hg, ← hfin]; simp [stepG.apply, hr]
    case enter f args =>
      obtain ⟨fr, g1, g2, g3⟩ := h
      have henter : step P (lone (fb.atR A (.inRegion ops (i :: rest) :: k)) cs w) = .next (lone (Frame.enter P f args .normal) (fb.atR A (.inRegion ops (i :: rest) :: k) :: cs) w1) :=
        step_lone_go (by rw [hg]; simp [stepG.apply, hr, Frame.atR])
      refine .head henter (g1.trans (.one ?_))
      rw [← hfin]; exact step_leave_returned g3
    case round l f tmps assign body =>
      have henter : step P (lone (fb.atR A (.inRegion ops (i :: rest) :: k)) cs w) = .next (lone (Frame.round l f tmps assign body .normal) (fb.atR A (.inRegion ops (i :: rest) :: k) :: cs) w1) :=
        step_lone_go (by rw [hg]; simp [stepG.apply, hr, Frame.atR])
      refine .head henter ?_
      rw [← hfin]; exact h

theorem put_rel {a : Ac} {A : Act} (h : AcRel ρ a A) (dst : Option Tmp) {v v' : Value} (hv : VRel ρ v v') : AcRel ρ (put a dst v) (A.put dst v') := by
  cases dst with
  | none => exact h
  | some d =>
    have hsz := h.size
    unfold put Act.put
    dsimp only
    cases hb : Nat.blt d a.n with
    | true =>
      have hlt : d < a.n := Nat.le_of_ble_eq_true hb
      simp only [cond_true]
      refine ⟨by simpa using hsz, fun i => ?_, h.defers⟩
      have hi := h.tmps i
      unfold ev at hi ⊢
      dsimp only at hi ⊢
      rw [Tr.get_set]
      by_cases hid : i = d
      · subst hid
        rw [if_pos rfl]
        have : (A.tmps.setIfInBounds i v').getD i undef = v' := by simp [Array.getD, hsz, hlt]
        rw [this]; exact hv
      · rw [if_neg hid]
        have : (A.tmps.setIfInBounds d v').getD i undef = A.tmps.getD i undef := by
          simp only [Array.getD_eq_getD_getElem?, Array.getElem?_setIfInBounds, if_neg (Ne.symm hid)]
        rw [this]; exact hi
    | false =>
      have hge : a.n ≤ d := Nat.le_of_not_lt fun h => by rw [show Nat.blt d a.n = true from Nat.ble_eq_true_of_le h] at hb; cases hb
      simp only [cond_false]
      have : A.tmps.setIfInBounds d v' = A.tmps := by
        apply Array.ext_getElem?
        intro j
        rw [Array.getElem?_setIfInBounds]
        by_cases hj : d = j
        · subst hj
          rw [if_pos rfl, if_neg (by rw [hsz]; exact Nat.not_lt.2 hge), Array.getElem?_eq_none (by rw [hsz]; exact hge)]
        · rw [if_neg hj]
      rw [this]
      exact h
theorem bool_back {v : Value} {c : Bool} (h : VRel ρ v (.bool c)) : v = .bool c := by
  cases h with
  | bool => rfl
  | txt _ _ hk => rcases TOk.forms hk with ⟨b, e⟩ | ⟨x, e⟩ | e | ⟨t, u, e⟩ <;> cases e
  | sstr i n l _ hl hv => rcases sv_forms n l.sh with ⟨b, e⟩ | ⟨_, _, e⟩ <;> (rw [e] at hv; cases hv)
/-- The guard, by what it looks at. -/
theorem wants_ok {ops : Array Oper} {a : Ac} {tmps : Array Value} {o : Oper} (h : ∀ j want g d, o.guard = some (j, want) → ops[j]? = some g → g.dst = some d → VRel ρ (ev a (.tmp d)) (tmps.getD d undef)) : wants ops.toList a o = Region.wanted o (yielded ops tmps) := by
  unfold wants Region.wanted
  cases hg : o.guard with
  | none => rfl
  | some p =>
    obtain ⟨j, want⟩ := p
    dsimp only
    rw [nth_eq]
    unfold yielded
    cases hj : ops[j]? with
    | none => simp [hj]
    | some g =>
      have : ops.toList[j]? = some g := by simpa using hj
      rw [this]
      dsimp only
      cases hd : g.dst with
      | none => simp [hd]
      | some d =>
        dsimp only
        have hv := h j want g d hg hj hd
        simp only [Option.bind_some, hd]
        unfold ev at hv
        dsimp only at hv
        rw [Array.getD_eq_getD_getElem?] at hv
        cases ht : tmps[d]? with
        | none =>
          rw [ht] at hv
          cases hat : a.t.get d with
          | none => rfl
          | some v =>
            rw [hat] at hv
            dsimp only at hv
            cases v <;> first | rfl | (exfalso; cases hv)
        | some v' =>
          rw [ht] at hv
          cases hat : a.t.get d with
          | none =>
            rw [hat] at hv
            dsimp only [Option.getD_some] at hv
            cases v' <;> first | rfl | (exfalso; cases hv)
          | some v =>
            rw [hat] at hv
            dsimp only [Option.getD_some] at hv
            cases hv <;> first | rfl | (rename_i i n l hl hs; rcases sv_forms n l.sh with ⟨b, e⟩ | ⟨_, _, e⟩ <;> (rw [e] at hs; subst hs; rfl)) | (rename_i hk; rcases TOk.forms hk with ⟨b, rfl⟩ | ⟨x, rfl⟩ | rfl | ⟨t, u, rfl⟩ <;> rfl) | (simp; done) | skip
            all_goals (rename_i c; cases c <;> cases want <;> rfl)
theorem eval_ok {a : Ac} {A : Act} (hw : WRel P b ρ s w) (h : AcRel ρ a A) {x : Operand} (hx : opFlat b.G x = true) : VRel ρ (ev a x) (A.eval x) := by
  cases x with
  | tmp t => exact h.tmps t
  | const v => exact flat_refl ρ hx
  | global g =>
    have hlt : g + 1 < b.G := Nat.le_of_ble_eq_true hx
    exact .ptr _ _ ⟨rfl, _, hw.globU hlt, by simp⟩
  | func f => exact .func _ _ _ _ _ _ rfl .nil .nil
theorem regOk_ops {ops : List Oper} (h : regOk b.G ops = true) {o : Oper} (ho : o ∈ ops) : ∀ x ∈ o.op.operands.toList, opFlat b.G x = true := by
  unfold regOk at h
  rw [List.all_eq_true] at h
  have := h o ho
  rw [List.all_eq_true] at this
  exact this

/-- A region in its text's order. -/
theorem opsRun_ok (hih : IhOk P b.G b.val ih) {ops : Array Oper} (hreg : regOk b.G ops.toList = true) : ∀ (l : List Oper) (i : Nat), ops.toList.drop i = l → ∀ {a : Ac} {s : St} {e : Ex} {a2 : Ac} {s2 : St}, opsRun P b.G ih ops.toList l a s = .ok (e, a2) s2 →
    ∀ {ρ : Ren} {w : World} {A : Act}, WRel P b ρ s w → AcRel ρ a A → ∀ (fb : Frame) (k : List Item) (cs : List Frame),
    ∃ ρ' A' w', Ok P b ρ s ρ' s2 w' ∧ AcRel ρ' a2 A' ∧ e = .normal ∧ Steps P (lone (fb.atR A (.inRegion ops (List.range' i l.length) :: k)) cs w) (lone (fb.atR A' k) cs w')
  | [], i, _, a, s, e, a2, s2, h, ρ, w, A, hw, ha, fb, k, cs => by
    injection h with h1 h2
    injection h1 with h1 h3
    subst h1; subst h2; subst h3
    exact ⟨ρ, A, w, .refl hw, ha, rfl, .one stepR_region_end⟩
  | o :: l, i, hl, a, s, e, a2, s2, h, ρ, w, A, hw, ha, fb, k, cs => by
    have h' : (bif wants ops.toList a o then liftR (oper P b.G ih a o s) fun v s => opsRun P b.G ih ops.toList l (put a o.dst v) s else opsRun P b.G ih ops.toList l (put a o.dst undef) s) = .ok (e, a2) s2 := h
    have hoi : ops.toList[i]? = some o := by
      have := congrArg (fun x => x[0]?) hl
      simpa [List.getElem?_drop] using this
    have hoi' : ops[i]? = some o := by simpa using hoi
    have hl' : ops.toList.drop (i + 1) = l := by
      have := congrArg List.tail hl
      simpa [List.tail_drop] using this
    have hwt := wants_ok (ρ := ρ) (ops := ops) (a := a) (tmps := A.tmps) (o := o) fun _ _ _ d _ _ _ => ha.tmps d
    have hrng : List.range' i (o :: l).length = i :: List.range' (i + 1) l.length := by rw [List.length_cons, List.range'_succ]
    cases hwb : wants ops.toList a o with
    | true =>
      rw [hwb] at h' hwt
      simp only [cond_true] at h'
      obtain ⟨v, s1, h1, h2⟩ := liftR_ok h'
      obtain ⟨⟨ρ1, w1, v', g1, g2, g3⟩, hnd⟩ := oper_ok hih h1 (e' := A.eval) (fun x hxm => eval_ok hw ha (regOk_ops hreg (List.mem_of_getElem? hoi) x hxm)) hw (c := fb.atR A (.inRegion ops (i :: List.range' (i + 1) l.length) :: k)) (cs := cs)
      obtain ⟨ρ2, A2, w2, q1, q2, q3, q4⟩ := opsRun_ok hih hreg l (i + 1) hl' h2 g1.rel (put_rel (ha.mono (g1.le hw)) o.dst g2) fb k cs
      refine ⟨ρ2, A2, w2, g1.trans q1, q2, q3, ?_⟩
      rw [hrng]
      exact (step_op hoi' hwt.symm hnd g3).trans q4
    | false =>
      rw [hwb] at h' hwt
      simp only [cond_false] at h'
      obtain ⟨ρ2, A2, w2, q1, q2, q3, q4⟩ := opsRun_ok hih hreg l (i + 1) hl' h' hw (put_rel ha o.dst (undef_rel ρ)) fb k cs
      refine ⟨ρ2, A2, w2, q1, q2, q3, ?_⟩
      rw [hrng]
      have hst := stepR_op_skip (P := P) (b := fb) (a := A) (k := k) (cs := cs) (w := w) (ops := ops) (i := i) (rest := List.range' (i + 1) l.length) (by simp [hoi', ← hwt])
      simp only [hoi', Option.bind_some] at hst
      exact .head hst q4
end
end Go.Proofs.YtdhkebolenbpiaaGreatDoor.X

namespace Go.Proofs.YtdhkebolenbpiaaGreatDoor.X
open Go.RowKit

section
variable {P : Program} {ih : Ih}

/-- A region that draws its order (to be shown apart). -/
def DrawOk (P : Program) (G : Nat) : Prop := ∀ {V : Nat} {ih : Ih}, IhOk P G V ih → ∀ {id : Nat} {ops : Array Oper} {pl : List Stage} {a : Ac} {s : St} {e : Ex} {a2 : Ac} {s2 : St}, regOk G ops.toList = true → planOf P ops.toList = some pl → stagesRun P G ih ops.toList (preOf ops.toList) pl [] a s = .ok (e, a2) s2 →
  ∀ {b : Base} {ρ : Ren} {w : World} {A : Act}, (b.G, b.val) = (G, V) → WRel P b ρ s w → AcRel ρ a A → ∀ (fn : FuncId) (fb : Frame) (k : List Item) (cs : List Frame), fb.fn = fn →
  ∃ ρ' A' w', Ok P b ρ s ρ' s2 w' ∧ AcRel ρ' a2 A' ∧ e = .normal ∧ Steps P (lone (fb.atR A (.code (.region id ops true) :: k)) cs w) (lone (fb.atR A' k) cs w')

theorem exitTo_plain' {x : Item} (hx : x.plain = true) (id : Nat) (k : List Item) : exitTo id (x :: k) = exitTo id k := by cases x <;> simp_all [exitTo, Item.plain]

theorem marks_ok {b : Base} : ∀ (l : List Nat) {s : St} {ρ : Ren} {w : World} {ds : List Deferred} {s2 : St}, marksRun l s = .ok () s2 → (∀ i ∈ l, b.G ≤ i) → WRel P b ρ s w → DRel ρ l ds →
    ∃ w', Ok P b ρ s ρ s2 w' ∧ ∀ (fr : Frame) (cs : List Frame), fr.mode = .returning → Steps P (lone { fr with defers := ds } cs w) (lone { fr with defers := [] } cs w')
  | [], s, ρ, w, ds, s2, h, _, hw, hd => by
    injection h with h1 h2
    subst h2
    cases hd
    exact ⟨w, .refl hw, fun fr cs _ => .refl _ _⟩
  | i :: l, s, ρ, w, ds, s2, h, hG, hw, hd => by
    cases hd with
    | cons _ k _ ds' hk ht =>
      have h' : (match s.heap.get i with | some (.obj (.deferred (some []))) => marksRun l (setObjA s i (.deferred none)) | _ => .no 141 0) = .ok () s2 := h
      split at h'
      · rename_i hg
        obtain ⟨o', h1, h2, h3⟩ := hw.heap _ _ _ hg (by simp) hk
        have h3 : o' = .deferred (some []) := h3
        subst h3
        have o1 := setObj_ok hw hg hk (hG i (by simp)) (o1 := .deferred none) (o1' := .deferred none) rfl
        obtain ⟨w', o2, st⟩ := marks_ok l h' (fun j hj => hG j (by simp [hj])) o1.rel ht
        refine ⟨w', o1.trans o2, fun fr cs hm => ?_⟩
        have hrun : (Instr.takeDeferred k.blk).run P w = .ok [] (setBlk w k.blk (.deferred none)) := by
          simp [Instr.takeDeferred, getObj, setObj, Sem.run, h1, setBlk]
        refine .head (m₁ := lone { fr with defers := ds' } cs (setBlk w k.blk (.deferred none))) (step_lone_go ?_) (st fr cs hm)
        obtain ⟨f1, f2, f3, f4, f5, f6, f7⟩ := fr
        dsimp only at hm
        subst hm
        simp [stepG, unwind, Sem.runT_eq, hrun]
      · cases h'

theorem vals_ok {b : Base} {a : Ac} {A : Act} : ∀ (l : List ResultVar) {s : St} {ρ : Ren} {w : World} {vs : List Value} {s2 : St}, valsRun P a l s = .ok vs s2 → WRel P b ρ s w → AcRel ρ a A →
    s2 = s ∧ ∃ vs', LRel ρ vs vs' ∧ (l.mapM (fun r => (match r with | .tmp t => pure (A.tmps.getD t undef) | .cell p t => do loadVar t (← asAddr (A.tmps.getD p undef)) : Sem Value))).run P w = .ok vs' w
  | [], s, ρ, w, vs, s2, h, hw, ha => by
    injection h with h1 h2
    subst h1; subst h2
    exact ⟨rfl, [], .nil, by simp⟩
  | .tmp t :: l, s, ρ, w, vs, s2, h, hw, ha => by
    have h' : liftR (valsRun P a l s) (fun vs s => Rs.ok (ev a (.tmp t) :: vs) s) = .ok vs s2 := h
    obtain ⟨vs1, s1, h1, h2⟩ := liftR_ok h'
    injection h2 with e1 e2
    subst e1; subst e2
    obtain ⟨rfl, vs', g1, g2⟩ := vals_ok l h1 hw ha
    exact ⟨rfl, _, .cons _ _ _ _ (ha.tmps t) g1, by simp only [List.mapM_cons, Sem.run_bind, g2, Result.andThen_ok, Sem.run_pure]⟩
  | .cell p t :: l, s, ρ, w, vs, s2, h, hw, ha => by
    have h' : liftR (doLoad P t (ev a (.tmp p)) s) (fun v s => liftR (valsRun P a l s) fun vs s => Rs.ok (v :: vs) s) = .ok vs s2 := h
    obtain ⟨v, s1, h1, h2⟩ := liftR_ok h'
    obtain ⟨vs1, s3, h3, h4⟩ := liftR_ok h2
    injection h4 with e1 e2
    subst e1; subst e2
    have hp := ha.tmps p
    obtain ⟨rfl, v', g1, g2⟩ := doLoad_ok h1 hp hw
    obtain ⟨rfl, vs', g3, g4⟩ := vals_ok l h3 hw ha
    refine ⟨rfl, _, .cons _ _ _ _ g1 g3, ?_⟩
    have g5 : ((do loadVar t (← asAddr (A.tmps.getD p undef))) : Sem Value).run P w = .ok v' w := by
      generalize A.tmps.getD p undef = q at hp g2 ⊢
      generalize ev a (.tmp p) = q0 at hp h1
      cases hp <;> first | (cases h1; done) | skip
      simpa [Instr.loadAt, Instr.sureAddr, asAddr] using g2
    rw [List.mapM_cons, Sem.run_bind]
    show Result.andThen (((do loadVar t (← asAddr (A.tmps.getD p undef))) : Sem Value).run P w) _ = _
    rw [g5]
    simp only [Result.andThen_ok, Sem.run_bind, g4, Sem.run_pure]

theorem leave_ok {b : Base} {fn : Func} {a : Ac} {A : Act} {s : St} {ρ : Ren} {w : World} {v : Value} {s2 : St} (h : doLeave P b.G fn a s = .ok v s2) (hw : WRel P b ρ s w) (ha : AcRel ρ a A) :
    ∃ v' w', Ok P b ρ s ρ s2 w' ∧ VRel ρ v v' ∧ (results fn A.tmps).run P w' = .ok v' w' ∧ ∀ (fr : Frame) (cs : List Frame), fr.mode = .returning → Steps P (lone { fr with defers := A.defers } cs w) (lone { fr with defers := [] } cs w') := by
  unfold doLeave at h
  obtain ⟨hG, h⟩ := bif_ok h
  obtain ⟨_, s1, h1, h⟩ := liftR_ok h
  obtain ⟨vs, s3, h2, h⟩ := liftR_ok h
  injection h with e1 e2
  subst e1; subst e2
  obtain ⟨w1, o1, st⟩ := marks_ok a.d h1 (fun i hi => by
    rw [List.all_eq_true] at hG
    exact Nat.le_of_ble_eq_true (hG i hi)) hw ha.defers
  obtain ⟨rfl, vs', g1, g2⟩ := vals_ok fn.results.toList h2 o1.rel ha
  have hlen := g1.length
  refine ⟨if h : vs'.length = 1 then vs'[0] else .tuple ⟨vs'⟩, w1, o1, ?_, ?_, st⟩
  · cases g1 with
    | nil => exact .tuple _ _ .nil
    | cons v v' l l' hv ht =>
      cases ht with
      | nil => exact hv
      | cons u u' m m' hu hm => exact .tuple _ _ (.cons _ _ _ _ hv (.cons _ _ _ _ hu hm))
  · unfold results
    rw [Array.mapM_eq_mapM_toList]
    simp only [Sem.run_bind, Sem.run_map]
    erw [g2]
    simp only [Result.andThen_ok]
    by_cases hl : vs'.length = 1
    · simp [hl]
    · simp [hl]
end
end Go.Proofs.YtdhkebolenbpiaaGreatDoor.X

namespace Go.Proofs.YtdhkebolenbpiaaGreatDoor.X
open Go.RowKit

section
variable {P : Program} {ih : Ih}

def inLoopF (fb : Frame) (A : Act) (l : Nat) (k : List Item) (ds : List Deferred) : Frame := { fn := fb.fn, tmps := A.tmps, todo := .inRangeFunc l :: k, defers := ds, mode := .run, kind := fb.kind, roundOf := none }
theorem step_range {fb : Frame} {A : Act} {k : List Item} {cs : List Frame} {w w2 : World} {v' : Value} {f : Operand} {params : Array Tmp} {assign body : Code} (hr : fb.roundOf = none)
    (h : Gets P (inLoopF fb A (w.heap.size + 1) k ({ target := .collected w.heap.size, args := #[] } :: A.defers)) cs v' w2 ((do let d ← Deferred.ofValue (A.eval f) #[.func (.yield (w.heap.size + 1)) #[] #[]]; invoke d.target d.args : Sem Next).run P
      ((w.alloc (.deferred (some []))).alloc (.loop { state := .ready, pending := none, fn := fb.fn, tmps := A.tmps, params, assign, body, defers := w.heap.size })))) :
    Steps P (lone (fb.atR A (.code (.rangeFunc f params assign body) :: k)) cs w) (lone (fb.atR ⟨A.tmps, { target := .collected w.heap.size, args := #[] } :: A.defers⟩ (.endRangeFunc (w.heap.size + 1) :: k)) cs w2) := by
  have hent : (Instr.enterLoop fb.fn A.tmps params assign body none).run P w = .ok (w.heap.size + 1, [{ target := .collected w.heap.size, args := #[] }]) ((w.alloc (.deferred (some []))).alloc (.loop { state := .ready, pending := none, fn := fb.fn, tmps := A.tmps, params, assign, body, defers := w.heap.size })) := by
    simp [Instr.enterLoop]
  generalize hw1 : (w.alloc (.deferred (some []))).alloc (.loop { state := .ready, pending := none, fn := fb.fn, tmps := A.tmps, params, assign, body, defers := w.heap.size }) = w1 at h hent
  generalize hmk : ({ target := .collected w.heap.size, args := #[] } : Deferred) = mk at h hent ⊢
  generalize w.heap.size + 1 = l at h hent ⊢
  have hev : ∀ x : Operand, Frame.eval (inLoopF fb A l k (mk :: A.defers)) x = A.eval x := fun x => by cases x <;> rfl
  have hres : (do let d ← resolve (Frame.eval (inLoopF fb A l k (mk :: A.defers))) { callee := .value f, args := #[.const (.func (.yield l) #[] #[])], argTypes := #[] } 0; invoke d.target d.args : Sem Next) = (do let d ← Deferred.ofValue (A.eval f) #[.func (.yield l) #[] #[]]; invoke d.target d.args) := by
    unfold resolve
    simp only [hev, List.map_toArray, List.map_cons, List.map_nil]
    rfl
  have hg : (stepG P true { frame := fb.atR A (.code (.rangeFunc f params assign body) :: k), callers := cs, status := .running, dying := none } w).bare =
      (stepG.apply P true (inLoopF fb A l k (mk :: A.defers)) cs none (do let d ← Deferred.ofValue (A.eval f) #[.func (.yield l) #[] #[]]; invoke d.target d.args) w1).bare := by
    rw [← hres]
    obtain ⟨f1, f2, f3, f4, f5, f6, f7⟩ := fb
    dsimp only at hr
    subst hr
    simp only [stepG, stepG.exec, Frame.atR, Sem.runT_eq, inLoopF] at hent ⊢
    rw [hent]
    simp only [GStep.bare_after, List.cons_append, List.nil_append]
  have hback : fb.atR ⟨A.tmps, mk :: A.defers⟩ (.endRangeFunc l :: k) = (inLoopF fb A l k (mk :: A.defers)).finish v' := by
    unfold Frame.atR inLoopF Frame.finish
    rw [hr]
  have hkind : (match (inLoopF fb A l k (mk :: A.defers)).todo with | .call _ true _ _ :: _ => CallKind.wrapped | _ => .normal) = .normal := rfl
  rw [hback]
  generalize hq : (do let d ← Deferred.ofValue (A.eval f) #[.func (.yield l) #[] #[]]; invoke d.target d.args : Sem Next) = q at h hg
  cases hrun : q.run P w1 with
  | halt x w3 => rw [hrun] at h; cases x <;> exact h.elim
  | ok n w3 =>
    rw [hrun] at h
    cases n <;> first | exact h.elim | skip
    case value x =>
      obtain ⟨rfl, rfl⟩ := h
      exact .one (step_lone_go (by rw [hg]; simp [stepG.apply, hrun]))
    case skip =>
      obtain ⟨rfl, rfl⟩ := h
      exact .one (step_lone_go (by rw [hg]; simp [stepG.apply, hrun]))
    case enter fn args =>
      obtain ⟨fr, g1, g2, g3⟩ := h
      have henter : step P (lone (fb.atR A (.code (.rangeFunc f params assign body) :: k)) cs w) = .next (lone (Frame.enter P fn args .normal) (inLoopF fb A l k (mk :: A.defers) :: cs) w3) :=
        step_lone_go (by rw [hg]; simp [stepG.apply, hrun, inLoopF])
      exact .head henter (g1.trans (.one (step_leave_returned g3)))
    case round l2 fn tmps assign2 body2 =>
      have henter : step P (lone (fb.atR A (.code (.rangeFunc f params assign body) :: k)) cs w) = .next (lone (Frame.round l2 fn tmps assign2 body2 .normal) (inLoopF fb A l k (mk :: A.defers) :: cs) w3) :=
        step_lone_go (by rw [hg]; simp [stepG.apply, hrun, inLoopF])
      exact .head henter h
theorem step_endRange {fb : Frame} {A : Act} {k : List Item} {cs : List Frame} {w w2 : World} {l : Nat} {jump : Option Code} (h : (Instr.endLoop l).run P w = .ok jump w2) :
    step P (lone (fb.atR A (.endRangeFunc l :: k)) cs w) = .next (lone (fb.atR A ((jump.map Item.code).toList ++ k)) cs w2) :=
  step_lone_go (by simp [stepG, stepG.exec, Frame.atR, Sem.runT_eq, h])

theorem arr_rel {ρ : Ren} {a : Ac} {A : Act} (h : AcRel ρ a A) : LRel ρ (arrOf a.n a.t) A.tmps.toList := by
  refine LRel.of_get (by simp [arrOf, h.size]) fun i v hv => ?_
  unfold arrOf at hv
  rw [List.getElem?_map] at hv
  cases hr : (List.range a.n)[i]? with
  | none => rw [hr] at hv; cases hv
  | some j =>
    rw [hr] at hv
    obtain ⟨hj, hj2⟩ := List.getElem?_eq_some_iff.1 hr
    rw [List.getElem_range] at hj2
    subst hj2
    injection hv with hv
    subst hv
    have hlt : i < A.tmps.size := by rw [h.size]; simpa using hj
    refine ⟨A.tmps[i], by simp [hlt], ?_⟩
    have := h.tmps i
    have e : A.tmps.getD i undef = A.tmps[i] := by simp [Array.getD, hlt]
    rw [e] at this
    exact this

theorem range_ok {b : Base} (hih : IhOk P b.G b.val ih) {fn : FuncId} {rnd rnd' : Option Nat} {f : Operand} {params : Array Tmp} {assign body : Code} {a a2 : Ac} {s s2 : St} {e : Ex} {ρ : Ren} {w : World} {A : Act}
    (h : doRange P b.G ih fn rnd f params assign body a s = .ok (e, a2) s2) (hf : opFlat b.G f = true) (hw : WRel P b ρ s w) (ha : AcRel ρ a A) (hr : RRel ρ rnd rnd') (fb : Frame) (k : List Item) (cs : List Frame) (hfn : fb.fn = fn) (_hfk : fb.kind = .normal) (hro : fb.roundOf = rnd') :
    ∃ ρ' A' w', Ok P b ρ s ρ' s2 w' ∧ AcRel ρ' a2 A' ∧ Arr P (lone (fb.atR A (.code (.rangeFunc f params assign body) :: k)) cs w) fb k cs e A' w' := by
  unfold doRange at h
  cases rnd with
  | some _ => cases h
  | none =>
    have hr : rnd' = none := hr
    subst hr
    dsimp only at h
    obtain ⟨o1, _, d1⟩ := newObj_ok hw (o := .deferred (some [])) (o' := .deferred (some [])) fun ρ' _ => rfl
    have ha1 := ha.mono (o1.le hw)
    obtain ⟨o2, _, d2⟩ := newObj_ok o1.rel (o := .loop { state := .ready, pending := none, fn, tmps := ⟨arrOf a.n a.t⟩, params, assign, body, defers := s.next })
      (o' := .loop { state := .ready, pending := none, fn, tmps := A.tmps, params, assign, body, defers := w.heap.size }) fun ρ' hle => ⟨_, rfl, ⟨rfl, rfl, rfl, rfl, rfl, rfl, arr_rel (ha1.mono hle), ⟨_, hle _ _ d1, rfl⟩⟩⟩
    have ha2 := ha1.mono (o2.le o1.rel)
    have hsz : (w.alloc (.deferred (some []))).heap.size = w.heap.size + 1 := by simp
    rw [hsz] at o2 d2 ha2
    generalize hρ2 : ((ρ.upd s.next ⟨w.heap.size, 0, 0⟩).upd (newObjA (.deferred (some [])) s).next ⟨w.heap.size + 1, 0, 0⟩) = ρ2 at o2 d2 ha2
    have d1' : ρ2 s.next = some ⟨w.heap.size, 0, 0⟩ := by rw [← hρ2]; exact (by have := o2.le o1.rel; rw [hρ2] at *; exact this _ _ d1)
    obtain ⟨v, s3, h1, h⟩ := liftR_ok h
    obtain ⟨r, hr, h⟩ := ofO_ok h
    have hfv : VRel ρ2 (ev { a with d := s.next :: a.d } f) (A.eval f) := by
      have := eval_ok (o1.trans o2).rel (A := A) (a := a) ha2 hf
      cases f <;> exact this
    have hy : VRel ρ2 (.func (.yield (newObjA (.deferred (some [])) s).next) #[] #[]) (.func (.yield (w.heap.size + 1)) #[] #[]) := .func _ _ _ _ _ _ ⟨_, d2, rfl⟩ .nil .nil
    obtain ⟨ρ3, w3, v', o3, _, g3⟩ := doCallV_ok hih h1 hfv (.cons _ _ _ _ hy .nil) o2.rel (c := inLoopF fb A (w.heap.size + 1) k ({ target := .collected w.heap.size, args := #[] } :: A.defers)) (cs := cs)
    have d2' := o3.le o2.rel _ _ d2
    have d1'' := o3.le o2.rel _ _ d1'
    obtain ⟨hg, r', q1, q2⟩ := loopOf_ok hr d2' o3.rel
    have hG : b.G ≤ (newObjA (.deferred (some [])) s).next := Nat.le_succ_of_le hw.base
    have o123 := (o1.trans o2).trans o3
    have ha3 : AcRel ρ3 { a with d := s.next :: a.d } ⟨A.tmps, { target := .collected w.heap.size, args := #[] } :: A.defers⟩ := by
      have := ha2.mono (o3.le o2.rel)
      exact ⟨this.size, fun i => this.tmps i, .cons _ ⟨w.heap.size, 0, 0⟩ _ _ d1'' this.defers⟩
    have hst : r.state ≠ .busy := by
      intro hb
      rw [hb] at h
      cases h
    have o4 := setObj_ok o3.rel hg d2' hG (o1 := .loop { r with state := .exhausted }) (o1' := .loop { r' with state := .exhausted }) ⟨_, rfl, { q2 with state := rfl }⟩
    have hend : (Instr.endLoop (w.heap.size + 1)).run P w3 = .ok r.pending (setBlk w3 (w.heap.size + 1) (.loop { r' with state := .exhausted })) := by
      have q1' : w3.heap[w.heap.size + 1]? = some (.loop r') := q1
      have hne : ¬ (r'.state == .busy) = true := by rw [q2.state]; simpa using hst
      simp only [Instr.endLoop, Sem.run_bind, run_getLoop q1', Result.andThen_ok]
      rw [if_neg hne]
      simp only [Sem.run_bind, Sem.run_pure, Result.andThen_ok, run_setLoop q1', q2.pending]
    have hsteps : Steps P (lone (fb.atR A (.code (.rangeFunc f params assign body) :: k)) cs w)
        (lone (fb.atR ⟨A.tmps, { target := .collected w.heap.size, args := #[] } :: A.defers⟩ ((r.pending.map Item.code).toList ++ k)) cs (setBlk w3 (w.heap.size + 1) (.loop { r' with state := .exhausted }))) := by
      subst hfn
      exact (step_range hro g3).trans (.one (step_endRange hend))
    have h' : (match r.pending with
        | none => Rs.ok (Ex.normal, { a with d := s.next :: a.d }) (setLoop s3 (newObjA (.deferred (some [])) s).next { r with state := .exhausted })
        | some .ret => .ok (.ret, { a with d := s.next :: a.d }) (setLoop s3 (newObjA (.deferred (some [])) s).next { r with state := .exhausted })
        | some (.exit id) => .ok (.exit id, { a with d := s.next :: a.d }) (setLoop s3 (newObjA (.deferred (some [])) s).next { r with state := .exhausted })
        | _ => .no 145 0) = .ok (e, a2) s2 := by
      cases hs : r.state <;> rw [hs] at h <;> first | exact h | exact absurd hs hst
    cases hp : r.pending with
    | none =>
      rw [hp] at h' hsteps o4
      injection h' with e1 e2
      injection e1 with e1 e3
      subst e1; subst e2; subst e3
      exact ⟨ρ3, _, _, o123.trans o4, ha3, hsteps⟩
    | some c =>
      rw [hp] at h' hsteps o4
      cases c <;> first | (cases h'; done) | skip
      case ret =>
        injection h' with e1 e2
        injection e1 with e1 e3
        subst e1; subst e2; subst e3
        exact ⟨ρ3, _, _, o123.trans o4, ha3, ⟨k, hsteps⟩⟩
      case exit id =>
        injection h' with e1 e2
        injection e1 with e1 e3
        subst e1; subst e2; subst e3
        exact ⟨ρ3, _, _, o123.trans o4, ha3, ⟨k, rfl, hsteps⟩⟩
end
end Go.Proofs.YtdhkebolenbpiaaGreatDoor.X

namespace Go.Proofs.YtdhkebolenbpiaaGreatDoor.X
open Go.RowKit

section
variable {P : Program} {G V : Nat} {ih : Ih}

theorem code_ok (hD : DrawOk P G) (hih : IhOk P G V ih) {fn : FuncId} {rnd : Option Nat} {c : Code} {a : Ac} {s : St} {e : Ex} {a2 : Ac} {s2 : St} (h : stepCode P G ih fn rnd c a s = .ok (e, a2) s2)
    {b : Base} {ρ : Ren} {w : World} {A : Act} {rnd' : Option Nat} (hbG : (b.G, b.val) = (G, V)) (hw : WRel P b ρ s w) (ha : AcRel ρ a A) (hr : RRel ρ rnd rnd') (fb : Frame) (k : List Item) (cs : List Frame) (q1 : fb.fn = fn) (q2 : fb.kind = .normal) (q3 : fb.roundOf = rnd') :
    ∃ ρ' A' w', Ok P b ρ s ρ' s2 w' ∧ AcRel ρ' a2 A' ∧ Arr P (lone (fb.atR A (.code c :: k)) cs w) fb k cs e A' w' := by
  injection hbG with hbG hbV
  subst hbG; subst hbV
  have two : ∀ {e1 : Ex} {a1 : Ac} {s1 : St}, Rs.ok (e1, a1) s1 = Rs.ok (e, a2) s2 → e1 = e ∧ a1 = a2 ∧ s1 = s2 := fun h => by
    injection h with h1 h2
    injection h1 with h1 h3
    exact ⟨h1, h3, h2⟩
  unfold stepCode at h
  cases c <;> first | (cases h; done) | skip
  case skip =>
    obtain ⟨rfl, rfl, rfl⟩ := two h
    exact ⟨ρ, A, w, .refl hw, ha, .one stepR_skip⟩
  case label l =>
    obtain ⟨rfl, rfl, rfl⟩ := two h
    exact ⟨ρ, A, w, .refl hw, ha, .one stepR_label⟩
  case exit id =>
    obtain ⟨rfl, rfl, rfl⟩ := two h
    exact ⟨ρ, A, w, .refl hw, ha, ⟨k, rfl, .refl _ _⟩⟩
  case ret =>
    obtain ⟨rfl, rfl, rfl⟩ := two h
    exact ⟨ρ, A, w, .refl hw, ha, ⟨k, .refl _ _⟩⟩
  case seq x y =>
    obtain ⟨⟨e1, a1⟩, s1, h1, h⟩ := liftR_ok h
    obtain ⟨ρ1, A1, w1, o1, r1, st1⟩ := hih.code h1 rfl hw ha hr fb (.code y :: k) cs q1 q2 q3
    cases e1 with
    | normal =>
      obtain ⟨ρ2, A2, w2, o2, r2, st2⟩ := hih.code h rfl o1.rel r1 (hr.mono (o1.le hw)) fb k cs q1 q2 q3
      exact ⟨ρ2, A2, w2, o1.trans o2, r2, .of_steps (.head stepR_seq st1) st2⟩
    | goto l => exact st1.elim
    | exit id =>
      obtain ⟨rfl, rfl, rfl⟩ := two h
      exact ⟨ρ1, A1, w1, o1, r1, .of_steps (.one stepR_seq) (.pass (x := .code y) (exitTo_plain' rfl · _) (by simp) st1)⟩
    | ret =>
      obtain ⟨rfl, rfl, rfl⟩ := two h
      exact ⟨ρ1, A1, w1, o1, r1, .of_steps (.one stepR_seq) (.pass (x := .code y) (exitTo_plain' rfl · _) (by simp) st1)⟩
  case cond c x y =>
    obtain ⟨hc, h⟩ := bif_ok h
    have hv := eval_ok hw ha hc
    cases hev : ev a c <;> rw [hev] at h hv <;> first | (cases h; done) | skip
    rename_i bb
    have hA : A.eval c = .bool bb := by
      generalize A.eval c = q at hv
      cases hv; rfl
    cases bb with
    | true =>
      obtain ⟨ρ1, A1, w1, o1, r1, st1⟩ := hih.code h rfl hw ha hr fb k cs q1 q2 q3
      exact ⟨ρ1, A1, w1, o1, r1, .of_steps (.one (stepR_cond hA)) st1⟩
    | false =>
      obtain ⟨ρ1, A1, w1, o1, r1, st1⟩ := hih.code h rfl hw ha hr fb k cs q1 q2 q3
      exact ⟨ρ1, A1, w1, o1, r1, .of_steps (.one (stepR_cond hA)) st1⟩
  case block id c =>
    obtain ⟨⟨e1, a1⟩, s1, h1, h⟩ := liftR_ok h
    obtain ⟨ρ1, A1, w1, o1, r1, st1⟩ := hih.code h1 rfl hw ha hr fb (.inBlock id :: k) cs q1 q2 q3
    cases e1 with
    | normal =>
      obtain ⟨rfl, rfl, rfl⟩ := two h
      exact ⟨ρ1, A1, w1, o1, r1, .head stepR_block (Steps.trans st1 (.one stepR_inBlock))⟩
    | exit id' =>
      dsimp only at h
      cases hid : Nat.beq id' id with
      | true =>
        rw [hid] at h
        obtain ⟨rfl, rfl, rfl⟩ := two h
        have := Nat.eq_of_beq_eq_true hid
        subst this
        refine ⟨ρ1, A1, w1, o1, r1, ?_⟩
        obtain ⟨k1, q1, q2⟩ := st1
        exact .head stepR_block (Steps.trans q2 (.one (stepR_exit (q1.trans (by simp [exitTo])))))
      | false =>
        rw [hid] at h
        obtain ⟨rfl, rfl, rfl⟩ := two h
        have hne : id' ≠ id := by rintro rfl; simp at hid
        refine ⟨ρ1, A1, w1, o1, r1, ?_⟩
        obtain ⟨k1, q1, q2⟩ := st1
        refine ⟨k1, q1.trans ?_, .head stepR_block q2⟩
        have : (id == id') = false := by simpa using hne.symm
        simp [exitTo, this]
    | ret =>
      obtain ⟨rfl, rfl, rfl⟩ := two h
      refine ⟨ρ1, A1, w1, o1, r1, ?_⟩
      obtain ⟨k1, q1⟩ := st1
      exact ⟨k1, .head stepR_block q1⟩
    | goto l => exact st1.elim
  case loop c =>
    obtain ⟨⟨e1, a1⟩, s1, h1, h⟩ := liftR_ok h
    obtain ⟨ρ1, A1, w1, o1, r1, st1⟩ := hih.code h1 rfl hw ha hr fb (.inLoop c :: k) cs q1 q2 q3
    cases e1 with
    | normal =>
      obtain ⟨ρ2, A2, w2, o2, r2, st2⟩ := hih.code h rfl o1.rel r1 (hr.mono (o1.le hw)) fb k cs q1 q2 q3
      refine ⟨ρ2, A2, w2, o1.trans o2, r2, ?_⟩
      have q1 := st1
      have q2 := st2
      -- the loop begun anew, and the loop that goes on, come to the same place
      have q3 : Steps P (lone (fb.atR A1 (.code (.loop c) :: k)) cs w1) (lone (fb.atR A1 (.code c :: .inLoop c :: k)) cs w1) := .one stepR_loop
      have q4 : step P (lone (fb.atR A1 (.inLoop c :: k)) cs w1) = step P (lone (fb.atR A1 (.code (.loop c) :: k)) cs w1) := by rw [stepR_inLoop, stepR_loop]
      have sw : ∀ {m'}, Steps P (lone (fb.atR A1 (.code (.loop c) :: k)) cs w1) m' → m' ≠ lone (fb.atR A1 (.code (.loop c) :: k)) cs w1 → Steps P (lone (fb.atR A1 (.inLoop c :: k)) cs w1) m' := by
        rintro m' ⟨n, hn⟩ hne
        cases n with
        | zero => simp [runN] at hn; exact absurd hn.symm hne
        | succ n => exact ⟨n + 1, by simp only [runN] at hn ⊢; rw [q4]; exact hn⟩
      have ne : ∀ {A' : Act} {k' : List Item} {w' : World}, k' ≠ .code (.loop c) :: k → lone (fb.atR A' k') cs w' ≠ lone (fb.atR A1 (.code (.loop c) :: k)) cs w1 := fun hk he => hk (by
        have := congrArg (fun m : Machine => (m.gs[0]?).map (·.frame.todo)) he
        simpa [lone, Frame.atR] using this)
      have q5 : Steps P (lone (fb.atR A (.code (.loop c) :: k)) cs w) (lone (fb.atR A1 (.inLoop c :: k)) cs w1) := .head stepR_loop q1
      cases e with
      | normal => exact q5.trans (sw q2 (ne fun h => by have := congrArg List.length h; simp at this))
      | exit id => obtain ⟨k1, g1, g2⟩ := q2; exact ⟨k1, g1, q5.trans (sw g2 (ne fun h => by simp at h))⟩
      | ret => obtain ⟨k1, g2⟩ := q2; exact ⟨k1, q5.trans (sw g2 (ne fun h => by simp at h))⟩
      | goto l => exact q2.elim
    | goto l => exact st1.elim
    | exit id =>
      obtain ⟨rfl, rfl, rfl⟩ := two h
      exact ⟨ρ1, A1, w1, o1, r1, .of_steps (.one stepR_loop) (.pass (x := .inLoop c) (exitTo_plain' rfl · _) (by simp) st1)⟩
    | ret =>
      obtain ⟨rfl, rfl, rfl⟩ := two h
      exact ⟨ρ1, A1, w1, o1, r1, .of_steps (.one stepR_loop) (.pass (x := .inLoop c) (exitTo_plain' rfl · _) (by simp) st1)⟩
  case rangeFunc f params assign body =>
    obtain ⟨hf, h⟩ := bif_ok h
    exact range_ok hih h hf hw ha hr fb k cs q1 q2 q3
  case region id ops draw =>
    obtain ⟨hreg, h⟩ := bif_ok h
    cases draw with
    | true =>
      obtain ⟨pl, hpl, h⟩ := ofO_ok h
      obtain ⟨ρ1, A1, w1, o1, r1, rfl, st1⟩ := hD hih (id := id) hreg hpl h rfl hw ha fn fb k cs q1
      exact ⟨ρ1, A1, w1, o1, r1, st1⟩
    | false =>
      obtain ⟨ρ1, A1, w1, o1, r1, rfl, st1⟩ := opsRun_ok hih hreg ops.toList 0 rfl h hw ha fb k cs
      refine ⟨ρ1, A1, w1, o1, r1, ?_⟩
      have := st1
      rw [← List.range_eq_range'] at this
      exact .head stepR_region (by simpa using this)

theorem call_ok (hih : IhOk P G V ih) {f : FuncId} {args : List Value} {s : St} {v : Value} {s2 : St} (h : stepCall P G ih f args s = .ok v s2)
    {b : Base} {ρ : Ren} {w : World} {args' : List Value} (hbG : (b.G, b.val) = (G, V)) (hw : WRel P b ρ s w) (ha : LRel ρ args args') (cs : List Frame) :
    ∃ ρ' v' w', Ok P b ρ s ρ' s2 w' ∧ VRel ρ' v v' ∧ ∃ fr, Steps P (lone (Frame.enter P f ⟨args'⟩ .normal) cs w) (lone fr cs w') ∧ fr.fn = f ∧ fr.leaving P w' (.returned v') := by
  injection hbG with hbG hbV
  subst hbG; subst hbV
  unfold stepCall at h
  obtain ⟨fn, hfn, h⟩ := ofO_ok h
  cases hb : fn.body with
  | none => rw [hb] at h; cases h
  | some c =>
    rw [hb] at h
    dsimp only at h
    cases hc : ih.code f none c { n := Nat.max fn.ntmps (lenL args), t := treeOf args 0 .nil, d := [] } s with
    | no _ _ => rw [hc] at h; cases h
    | ok r s1 =>
      obtain ⟨e, a⟩ := r
      rw [hc] at h
      dsimp only at h
      have hlen := ha.length
      have hA : AcRel ρ { n := Nat.max fn.ntmps (lenL args), t := treeOf args 0 .nil, d := [] } ⟨⟨args'⟩ ++ Array.replicate (fn.ntmps - args'.length) undef, []⟩ := by
        refine ⟨?_, fun i => tree_rel ha _ i, .nil⟩
        rw [lenL_eq, hlen]
        have : (⟨args'⟩ ++ Array.replicate (fn.ntmps - args'.length) undef : Array Value).size = args'.length + (fn.ntmps - args'.length) := by
          rw [Array.size_append, Array.size_replicate]; rfl
        rw [this]
        show _ = max _ _
        omega
      let fb : Frame := { (default : Frame) with fn := f, kind := .normal }
      obtain ⟨ρ1, A1, w1, o1, r1, q⟩ := hih.code hc rfl hw hA (rnd' := none) rfl fb [] cs rfl rfl rfl
      have henter : Frame.enter P f ⟨args'⟩ .normal = fb.atR ⟨⟨args'⟩ ++ Array.replicate (fn.ntmps - args'.length) undef, []⟩ [.code c] := by
        simp only [Frame.enter, hfn, Option.map_some, Option.getD_some, Option.bind_some, hb, Frame.atR]
        rfl
      have fin : (e = .normal ∨ e = .ret) → doLeave P b.G fn a s1 = .ok v s2 → ∃ ρ' v' w', Ok P b ρ s ρ' s2 w' ∧ VRel ρ' v v' ∧ ∃ fr, Steps P (lone (Frame.enter P f ⟨args'⟩ .normal) cs w) (lone fr cs w') ∧ fr.fn = f ∧ fr.leaving P w' (.returned v') := by
        intro he h
        obtain ⟨v', w2, o2, g1, g2, g3⟩ := leave_ok h o1.rel r1
        refine ⟨ρ1, v', w2, o1.trans o2, g1, ?_⟩
        have q2 : ∃ todo, Steps P (lone (Frame.enter P f ⟨args'⟩ .normal) cs w) (lone { fb.atR A1 todo with mode := .returning } cs w1) := by
          rw [henter]
          rcases he with rfl | rfl
          · exact ⟨[], Steps.trans q (.one (stepR_end rfl))⟩
          · obtain ⟨k1, q⟩ := q
            exact ⟨_, Steps.trans q (.one (stepR_ret rfl))⟩
        obtain ⟨todo, q2⟩ := q2
        have q3 := g3 { fb.atR A1 todo with mode := .returning } cs rfl
        exact ⟨_, q2.trans q3, rfl, rfl, rfl, rfl, fn, hfn, g2⟩
      cases e with
      | normal => exact fin (.inl rfl) h
      | ret => exact fin (.inr rfl) h
      | exit _ => cases h
      | goto _ => cases h

theorem go_ok (hD : DrawOk P G) : ∀ n, IhOk P G V (go P G n)
  | 0 => ⟨fun h => (by cases h), fun h => (by cases h)⟩
  | n + 1 => ⟨fun h _ _ _ _ _ hbG hw ha hr => code_ok hD (go_ok hD n) h hbG hw ha hr, fun h _ _ _ _ hbG hw ha cs => call_ok (go_ok hD n) h hbG hw ha cs⟩
/-- A CLOSED CALL: what the kernel finds is what the machine does. -/
theorem calls_of_go (hD : DrawOk P G) {n : Nat} {f : FuncId} {args : List Value} {s s2 : St} {v : Value} (h : (go P G n).call f args s = .ok v s2) {ρ : Ren} {w : World} {args' : List Value} (hw : WRel P ⟨G, w.heap.size, w, V, fun _ => False⟩ ρ s w) (ha : LRel ρ args args') (hv : flat v = true) :
    Calls P f ⟨args'⟩ w fun e w' => e = .returned v ∧ Below w.heap.size w w' := by
  intro cs
  obtain ⟨ρ', v', w', g1, g2, fr, q1, q2, q3⟩ := (go_ok hD n).call h rfl hw ha cs
  have := flat_eq g2 hv
  subst this
  exact ⟨.returned v', w', fr, ⟨rfl, g1.rel.below⟩, q1, q2, q3⟩
end
end Go.Proofs.YtdhkebolenbpiaaGreatDoor.X

namespace Go.Proofs.YtdhkebolenbpiaaGreatDoor.X
open Go.RowKit

structure Ent where
  i : Nat
  o : Oper
  a : Ac
  v : Value
  id : Option Nat
noncomputable def cur (S : Nat → Bool) (a0 : Ac) : List Ent → Nat → Value
  | [], d => ev a0 (.tmp d)
  | e :: H, d => if S e.i = true ∧ e.o.dst = some d ∧ d < a0.n then e.v else cur S a0 H d
theorem cur_cons (S : Nat → Bool) (a0 : Ac) (e : Ent) (H : List Ent) (d : Nat) : cur S a0 (e :: H) d = if S e.i = true ∧ e.o.dst = some d ∧ d < a0.n then e.v else cur S a0 H d := rfl
structure EnvOk (a0 : Ac) (H : List Ent) (a : Ac) : Prop where
  n : a.n = a0.n
  d : a.d = a0.d
  ev : ∀ d, ev a (.tmp d) = cur (fun _ => true) a0 H d
theorem env_put {a0 a : Ac} {H : List Ent} (h : EnvOk a0 H a) (i : Nat) (o : Oper) (a' : Ac) (v : Value) (id : Option Nat) : EnvOk a0 (⟨i, o, a', v, id⟩ :: H) (put a o.dst v) := by
  unfold put
  cases hd : o.dst with
  | none =>
    refine ⟨h.n, h.d, fun d => ?_⟩
    rw [h.ev d]
    simp [cur, hd]
  | some d0 =>
    dsimp only
    cases hb : Nat.blt d0 a.n with
    | true =>
      have hlt : d0 < a.n := Nat.le_of_ble_eq_true hb
      have hlt' : d0 < a0.n := h.n ▸ hlt
      refine ⟨h.n, h.d, fun d => ?_⟩
      have hv := h.ev d
      unfold ev at hv ⊢
      simp only [cond_true]
      dsimp only at hv
      rw [Tr.get_set]
      by_cases hid : d = d0
      · subst hid
        simp [cur, hd, hlt']
      · rw [if_neg hid, hv]
        have : ¬ (d0 = d) := fun e => hid e.symm
        simp [cur, hd, this]
    | false =>
      have hge : ¬ d0 < a0.n := fun hl => by
        rw [← h.n] at hl
        rw [show Nat.blt d0 a.n = true from Nat.ble_eq_true_of_le hl] at hb; cases hb
      refine ⟨h.n, h.d, fun d => ?_⟩
      simp only [cond_false]
      rw [h.ev d]
      by_cases hid : d0 = d
      · subst hid; simp [cur, hd, hge]
      · simp [cur, hd, hid]

section
variable {P : Program} {ih : Ih} {ops : Array Oper} {pre : List Nat}

def HOk (ops : Array Oper) (pre : List Nat) (a0 : Ac) : List Ent → Prop
  | [] => True
  | e :: H => ops[e.i]? = some e.o ∧ (∀ x ∈ H, x.i ≠ e.i ∧ inPre pre e.i x.i = false) ∧ EnvOk a0 H e.a ∧ (∀ k, e.id = some k → ∀ x ∈ H, x.id ≠ some k) ∧ HOk ops pre a0 H
structure Stat (ops : Array Oper) (pre : List Nat) : Prop where
  down : ∀ i o e, ops[i]? = some o → e ∈ o.after → Region.binds .any e = true → e.on < i
  ex : ∀ i o j, ops[i]? = some o → j < ops.size → inPre pre j i = true → ∃ e, e ∈ o.after ∧ Region.binds .any e = true ∧ (e.on = j ∨ inPre pre j e.on = true)
  ap : ∀ i j x y, ops[i]? = some x → ops[j]? = some y → i ≠ j → inPre pre i j = true ∨ inPre pre j i = true ∨ apart ops.toList x y = true
def Closed (ops : Array Oper) (L : Nat → Bool) : Prop := ∀ i o e, ops[i]? = some o → L i = true → e ∈ o.after → Region.binds .any e = true → L e.on = true
theorem HOk.op {a0 : Ac} : ∀ {H : List Ent}, HOk ops pre a0 H → ∀ e ∈ H, ops[e.i]? = some e.o
  | [], _, _, h => by cases h
  | x :: H, h, e, he => by
    rcases List.mem_cons.1 he with rfl | he
    · exact h.1
    · exact HOk.op h.2.2.2.2 e he
theorem pre_closed (hs : Stat ops pre) {L : Nat → Bool} (hc : Closed ops L) : ∀ (i j : Nat) (o : Oper), ops[i]? = some o → j < ops.size → L i = true → inPre pre j i = true → L j = true := by
  intro i
  induction i using Nat.strongRecOn with
  | _ i ih =>
    intro j o ho hj hl hp
    obtain ⟨e, he, hb, h⟩ := hs.ex i o j ho hj hp
    have hle := hc i o e ho hl he hb
    rcases h with rfl | h
    · exact hle
    · have hlt := hs.down i o e ho he hb
      have hin : i < ops.size := (Array.getElem?_eq_some_iff.1 ho).1
      obtain ⟨o2, ho2⟩ : ∃ o2, ops[e.on]? = some o2 := ⟨_, Array.getElem?_eq_getElem (by omega)⟩
      exact ih e.on hlt j o2 ho2 hj hle h
theorem pre_ready (hs : Stat ops pre) {L : Nat → Bool} (hc : Closed ops L) {i j : Nat} {o : Oper} (ho : ops[i]? = some o) (hj : j < ops.size) (hr : ∀ e ∈ o.after, Region.binds .any e = true → L e.on = true) (hp : inPre pre j i = true) : L j = true := by
  obtain ⟨e, he, hb, h⟩ := hs.ex i o j ho hj hp
  have hle := hr e he hb
  rcases h with rfl | h
  · exact hle
  · have hlt := hs.down i o e ho he hb
    have hin : i < ops.size := (Array.getElem?_eq_some_iff.1 ho).1
    obtain ⟨o2, ho2⟩ : ∃ o2, ops[e.on]? = some o2 := ⟨_, Array.getElem?_eq_getElem (by omega)⟩
    exact pre_closed hs hc e.on j o2 ho2 hj hle h
theorem apart_looks {x y : Oper} {d : Nat} (h : apart ops.toList x y = true) (hx : x.dst = some d) : d ∉ looks ops.toList y ∧ y.dst ≠ some d := by
  unfold apart at h
  rw [hx] at h
  simp only [Bool.and_eq_true, Bool.not_eq_true', bne_iff_ne] at h
  refine ⟨fun hm => ?_, h.2⟩
  have := List.contains_iff_mem.2 hm
  rw [this] at h
  cases h.1

theorem cur_congr {a0 : Ac} {S S' : Nat → Bool} {d : Nat} : ∀ {H : List Ent}, (∀ x ∈ H, x.o.dst = some d → S x.i = S' x.i) → cur S a0 H d = cur S' a0 H d
  | [], _ => rfl
  | x :: H, h => by
    have ih := cur_congr (a0 := a0) (H := H) fun y hy => h y (by simp [hy])
    unfold cur
    by_cases hd : x.o.dst = some d
    · rw [h x (by simp) hd, ih]
    · simp [hd, ih]
/-- What a pending operation looks at is as it was when it was run. -/
theorem cur_at (hs : Stat ops pre) {a0 : Ac} {L : Nat → Bool} (hc : Closed ops L) {e : Ent} (hp : L e.i = false) (hr : ∀ x ∈ e.o.after, Region.binds .any x = true → L x.on = true) {d : Nat} (hd : d ∈ looks ops.toList e.o) :
    ∀ {H : List Ent}, HOk ops pre a0 H → e ∈ H → cur L a0 H d = ev e.a (.tmp d)
  | [], _, h => by cases h
  | x :: H, hk, he => by
    obtain ⟨k1, k2, k3, k4, k5⟩ := hk
    rcases List.mem_cons.1 he with rfl | he'
    · rw [k3.ev d, cur_cons, if_neg (by rw [hp]; simp)]
      refine cur_congr fun y hy hyd => ?_
      have hyo := k5.op y hy
      have hyl : y.i < ops.size := (Array.getElem?_eq_some_iff.1 hyo).1
      rcases hs.ap y.i e.i _ _ hyo k1 (k2 y hy).1 with h | h | h
      · exact pre_ready hs hc k1 hyl hr h
      · rw [(k2 y hy).2] at h; cases h
      · exact absurd hd (apart_looks h hyd).1
    · unfold cur
      rw [if_neg]
      · exact cur_at hs hc hp hr hd k5 he'
      · rintro ⟨h1, h2, _⟩
        have heo := k5.op e he'
        have hel : e.i < ops.size := (Array.getElem?_eq_some_iff.1 heo).1
        rcases hs.ap x.i e.i _ _ k1 heo (k2 e he').1.symm with h | h | h
        · rw [(k2 e he').2] at h; cases h
        · rw [pre_closed hs hc x.i e.i _ k1 hel h1 h] at hp; cases hp
        · exact absurd hd (apart_looks h h2).1
/-- Behind it. -/
theorem cur_set (hs : Stat ops pre) {a0 : Ac} {L L' : Nat → Bool} (hc : Closed ops L) {e : Ent} (hp : L e.i = false) (hL : ∀ j, L' j = (L j || j == e.i)) (d : Nat) :
    ∀ {H : List Ent}, HOk ops pre a0 H → e ∈ H → cur L' a0 H d = if e.o.dst = some d ∧ d < a0.n then e.v else cur L a0 H d
  | [], _, h => by cases h
  | x :: H, hk, he => by
    obtain ⟨k1, k2, k3, k4, k5⟩ := hk
    rcases List.mem_cons.1 he with rfl | he'
    · unfold cur
      rw [hL, hp]
      simp only [Bool.false_or, beq_self_eq_true, true_and, Bool.false_eq_true, false_and, if_false]
      by_cases hd : e.o.dst = some d ∧ d < a0.n
      · rw [if_pos hd, if_pos hd]
      · rw [if_neg hd, if_neg hd]
        refine cur_congr fun y hy _ => ?_
        rw [hL]
        have : (y.i == e.i) = false := by simpa using (k2 y hy).1
        rw [this, Bool.or_false]
    · have hne := (k2 e he').1
      have hLx : L' x.i = L x.i := by
        rw [hL]
        have : (x.i == e.i) = false := by simpa using hne.symm
        rw [this, Bool.or_false]
      unfold cur
      rw [hLx, cur_set hs hc hp hL d k5 he']
      by_cases hd : e.o.dst = some d ∧ d < a0.n
      · rw [if_pos hd]
        rw [if_neg]
        · rw [if_pos hd]
        · rintro ⟨h1, h2, _⟩
          have heo := k5.op e he'
          have hel : e.i < ops.size := (Array.getElem?_eq_some_iff.1 heo).1
          rcases hs.ap x.i e.i _ _ k1 heo hne.symm with h | h | h
          · rw [(k2 e he').2] at h; cases h
          · rw [pre_closed hs hc x.i e.i _ k1 hel h1 h] at hp; cases hp
          · exact (apart_looks h h2).2 hd.1
      · rw [if_neg hd, if_neg hd]
end
end Go.Proofs.YtdhkebolenbpiaaGreatDoor.X
