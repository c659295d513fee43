/- A region that draws its order, walked in one order: heads that yield the same in every world of a class, tails one behind the other. May a batch be? -/
import Derived.Test.YtcmjgghkmdbphaaGreatDoorT01
import Derived.Test.YtcmjgghkmdbphaaGreatDoorT03
set_option maxRecDepth 20000
set_option maxHeartbeats 25600000
namespace Go.Proofs.YtcmjgghkmdbphaaGreatDoor
section
variable {P : Program} {ops : Array Oper} {md : Region.Mode} {Q : Exit → Act → World → Prop}
def plainKind (o : Oper) : Bool :=
 match o.op with
 | .move _ | .assign _ | .pick .. | .load .. | .binOp .. | .unOp .. | .convert .. | .fieldAddr .. | .field .. | .indexAddr .. | .index .. | .lookup .. | .slice .. | .extract .. | .build .. | .makeInterface .. | .makeFunc .. | .nilCheck _ => true
 | .call { callee := .builtin .len, .. } | .call { callee := .builtin .min, .. } | .call { callee := .builtin .max, .. } => true
 | _ => false
theorem run_val_enter {s : Sem Value} {w w' : World} {f : FuncId} {args : Array Value} : ((do pure (Next.value (← s))) : Sem Next).run P w ≠ .ok (.enter f args) w' := by
 intro h
 simp only [Sem.run_bind] at h
 generalize s.run P w = r at h
 cases r with
 | ok v w1 => simp [Result.andThen] at h
 | halt x w1 => simp [Result.andThen] at h
theorem run_bool_enter {s : Sem Bool} {x y : Value} {w w' : World} {f : FuncId} {args : Array Value} : ((do pure (Next.value (if ← s then x else y))) : Sem Next).run P w ≠ .ok (.enter f args) w' := by
 intro h
 simp only [Sem.run_bind] at h
 generalize s.run P w = r at h
 cases r with
 | ok v w1 => simp [Result.andThen] at h
 | halt x w1 => simp [Result.andThen] at h
theorem plain_run {o : Oper} (h : plainKind o = true) (ρ : Operand → Value) (w w' : World) (f : FuncId) (args : Array Value) : (execOp ρ o).run P w ≠ .ok (.enter f args) w' := by
 obtain ⟨dst, op, ty, pos, after, guard⟩ := o
 cases op <;> first | (simp [plainKind] at h; done) | exact run_val_enter | exact run_bool_enter | skip
 case move x => intro h; cases h
 case assign x => intro h; cases h
 case nilCheck x =>
  intro h
  simp only [execOp] at h
  split at h
  ·simp [runtimePanic] at h
  ·simp [runtimePanic] at h
  ·simp [runtimePanic] at h
  ·split at h
   ·simp [runtimePanic] at h
   ·simp only [Sem.run_bind, run_program, Result.andThen_ok] at h
    generalize hr : Sem.run P _ w = r at h
    cases r with
    | ok v w1 =>
      simp only [Result.andThen] at h
      split at h
      ·simp [unsupported] at h
      ·simp at h
    | halt x w1 => simp [Result.andThen] at h
   ·simp at h
  ·simp at h
 case call c =>
  obtain ⟨callee, cargs, cty⟩ := c
  cases callee with
  | value f => simp [plainKind] at h
  | invoke r n => simp [plainKind] at h
  | builtin b =>
    have key : ∀ (ts : Array TypeId) (t : TypeId) (cs : Array Bool) (vs : Array Value), (builtin b ts t cs vs).run P w ≠ .ok (.enter f args) w' := by
     intro ts t cs vs
     cases b <;> first | (simp [plainKind] at h; done) | exact run_val_enter
    intro hh
    simp only [execOp, resolve, invoke, Sem.run_bind, Sem.run_pure, Result.andThen_ok] at hh
    exact key _ _ _ _ hh
def YieldsC (P : Program) (ops : Array Oper) (C : World → Prop) (o : Oper) (v : Value) (a : Act) : Prop :=
 (Region.wanted o (yielded ops a.tmps) = true ∧ ∀ w, C w → (execOp a.eval o).run P w = .ok (.value v) w ∨ ((execOp a.eval o).run P w = .ok .skip w ∧ v = undef)) ∨
 (Region.wanted o (yielded ops a.tmps) = false ∧ v = undef)
theorem YieldsC.sub {C C' : World → Prop} {o : Oper} {v : Value} {a : Act} (h : YieldsC P ops C o v a) (hs : ∀ w, C' w → C w) : YieldsC P ops C' o v a :=
 h.imp (fun ⟨h1, h2⟩ => ⟨h1, fun w hw => h2 w (hs w hw)⟩) id
theorem YieldsC.of_same {C : World → Prop} {o : Oper} {v : Value} {a a' : Act} (hy : YieldsC P ops C o v a) (he : execOp a'.eval o = execOp a.eval o)
 (hw : Region.wanted o (yielded ops a'.tmps) = Region.wanted o (yielded ops a.tmps)) : YieldsC P ops C o v a' := by
 unfold YieldsC at *
 rw [he, hw]
 exact hy
theorem YieldsC.wpOp {C : World → Prop} {i : Nat} {o : Oper} {v : Value} {a : Act} (hi : ops[i]? = some o) (hy : YieldsC P ops C o v a)
 {K : Act → World → Prop} {w : World} (hC : C w) (h : K (a.put o.dst v) w) : wpOp P ops Q i K a w := by
 unfold Go.wpOp
 simp only [hi]
 rcases hy with ⟨hw, hv⟩ | ⟨hw, rfl⟩
 ·simp only [hw, if_true]
  rcases hv w hC with h1 | ⟨h1, h2⟩
  ·exact .inl (by unfold Oper.wp; rw [h1]; exact h)
  ·subst h2; exact .inl (by unfold Oper.wp; rw [h1]; exact h)
 ·simp only [hw, Bool.false_eq_true, if_false]; exact h
theorem wpOp_putC {C : World → Prop} {j : Nat} {oi oj : Oper} {v : Value} (hj : ops[j]? = some oj) (hap : oi.apart ops oj = true)
 (hsi : ∀ cs b, oi.op ≠ .select cs b) (hsj : ∀ cs b, oj.op ≠ .select cs b)
 (hQ : ∀ c a w, Q (.panic c) (a.put oi.dst v) w → Q (.panic c) a w) {K : Act → World → Prop} {a : Act} {w : World}
 (hy : YieldsC P ops C oi v a) (h : wpOp P ops Q j K (a.put oi.dst v) w) :
 wpOp P ops Q j (fun a' w' => YieldsC P ops C oi v a' ∧ K (a'.put oi.dst v) w') a w := by
 obtain ⟨h1, h2, h3⟩ := Oper.apart_spec hap
 have keep : ∀ (a : Act), YieldsC P ops C oi v a → ∀ u, YieldsC P ops C oi v (a.put oj.dst u) := fun a hy u =>
  hy.of_same (execOp_put oi hsi a oj.dst u h3) (wanted_put oi a oj.dst u h3)
 have keepD : ∀ d, YieldsC P ops C oi v { a with defers := d :: a.defers } := fun d => hy.of_same rfl rfl
 unfold wpOp at *
 simp only [hj] at *
 rw [wanted_put oj a oi.dst v h1] at h
 split
 ·rename_i hw
  simp only [hw, if_true] at h
  rcases h with h | ⟨hasks, hlets⟩
  case inr => exact .inr ⟨by unfold Oper.asks at *; rw [execOp_put oj hsj a oi.dst v h1] at hasks; exact hasks, hlets⟩
  refine .inl ?_
  unfold Oper.wp at *
  rw [execOp_put oj hsj a oi.dst v h1] at h
  generalize (execOp a.eval oj).run P w = r at *
  cases r with
  | ok n w' =>
    cases n <;> simp only [Oper.upon] at h ⊢
    case value u => exact ⟨keep a hy u, by rw [← Act.put_comm a v u h2]; exact h⟩
    case skip => exact ⟨keep a hy _, by rw [← Act.put_comm a v undef h2]; exact h⟩
    case defer d =>
     refine ⟨keep _ (keepD d) _, ?_⟩
     rw [← Act.put_comm _ v undef h2, ← Act.put_defers]
     exact h
    case enter f args =>
     refine Calls.mono h fun e w'' he => ?_
     cases e with
     | returned u => exact ⟨keep a hy u, by rw [← Act.put_comm a v u h2]; exact he⟩
     | panicked c => exact hQ _ _ _ he
     | outgrown => exact he
    case row row args => exact Rows.mono h fun u w'' he => ⟨keep a hy u, by rw [← Act.put_comm a v u h2]; exact he⟩
  | halt x w' =>
    cases x <;> simp only [Oper.upon] at h ⊢
    case panic u => exact hQ _ _ _ h
 ·rename_i hw
  simp only [hw] at h
  exact ⟨keep a hy _, by rw [← Act.put_comm a v undef h2]; exact h⟩
def waitsAll (md : Region.Mode) (ops : Array Oper) (H : List Nat) (t : Nat) : Bool :=
 H.all fun k => k == t || (((ops[t]?).map fun o => o.after.toList.any fun e => Region.binds md e && e.on == k).getD false)
theorem waitsAll_spec {H : List Nat} {t k : Nat} {o : Oper} (h : waitsAll md ops H t = true) (ho : ops[t]? = some o) (hk : k ∈ H) (hkt : k ≠ t) : ∃ e ∈ o.after, Region.binds md e = true ∧ e.on = k := by
 have h1 := List.all_eq_true.1 h k hk
 rw [ho] at h1
 simp only [Option.map_some, Option.getD_some, Bool.or_eq_true, beq_iff_eq, List.any_eq_true, Bool.and_eq_true] at h1
 rcases h1 with h1 | ⟨e, he, h2, h3⟩
 ·exact absurd h1 hkt
 ·exact ⟨e, by simpa using he, h2, h3⟩
def wpAnyC (P : Program) (md : Region.Mode) (ops : Array Oper) (H : List Nat) (Q : Exit → Act → World → Prop) : Nat → Array Bool → (World → Prop) → Act → World → Prop
 | 0, listed, _, a, w => Region.ready md ops listed = [] ∧ Q .normal a w
 | fuel + 1, listed, C, a, w =>
   (Region.ready md ops listed = [] → Q .normal a w) ∧
   ∀ i ∈ Region.ready md ops listed, wpOp P ops Q i (fun a' w' => ∃ C' : World → Prop, C' w' ∧ ((∀ w, C' w → C w) ∨ waitsAll md ops H i = true) ∧ wpAnyC P md ops H Q fuel (listed.setIfInBounds i true) C' a' w') a w
theorem wpAny_of_C {H : List Nat} : ∀ (fuel : Nat) (listed : Array Bool) (C : World → Prop) (a : Act) (w : World), wpAnyC P md ops H Q fuel listed C a w → wpAny P md ops Q fuel listed a w
 | 0, _, _, _, _, h => h
 | fuel + 1, _, _, _, _, h => ⟨h.1, fun i hi => wpOp_mono (fun a' w' ⟨C', _, _, h'⟩ => wpAny_of_C fuel _ C' a' w' h') (h.2 i hi)⟩
theorem wpAnyC_take {H : List Nat} {i : Nat} (hiH : i ∈ H) {oi : Oper} {v : Value} (hi : ops[i]? = some oi) (hsel : ∀ (j : Nat) (o : Oper) cs b, ops[j]? = some o → o.op ≠ .select cs b)
 (hQ : ∀ c a w, Q (.panic c) (a.put oi.dst v) w → Q (.panic c) a w) :
 ∀ (fuel : Nat) (listed : Array Bool) (C : World → Prop) (a : Act) (w : World), C w →
   (∀ j oj, ops[j]? = some oj → j ≠ i → listed.getD j true = false → (∀ e ∈ oj.after, Region.binds md e = true → e.on ≠ i) → oi.apart ops oj = true) →
   i ∈ Region.ready md ops listed → YieldsC P ops C oi v a →
   wpAnyC P md ops H Q fuel (listed.setIfInBounds i true) C (a.put oi.dst v) w → wpAnyC P md ops H Q (fuel + 1) listed C a w := by
 intro fuel
 induction fuel with
 | zero =>
   intro listed C a w hC _ hr hy H
   refine ⟨fun h => (by rw [h] at hr; cases hr), fun j hj => ?_⟩
   by_cases hji : j = i
   ·subst hji; exact hy.wpOp hi hC ⟨C, hC, .inl fun _ h => h, H⟩
   ·have := ready_mono hj hji
    rw [H.1] at this
    cases this
 | succ fuel ih =>
   intro listed C a w hC hfree hr hy H
   refine ⟨fun h => (by rw [h] at hr; cases hr), fun j hj => ?_⟩
   by_cases hji : j = i
   ·subst hji; exact hy.wpOp hi hC ⟨C, hC, .inl fun _ h => h, H⟩
   ·have h1 := H.2 j (ready_mono hj hji)
    obtain ⟨hjun, oj, hoj, hall⟩ := mem_ready.1 hj
    have hap := hfree j oj hoj hji hjun (ready_not hj hoj hr)
    have hfree' : ∀ k ok, ops[k]? = some ok → k ≠ i → (listed.setIfInBounds j true).getD k true = false →
     (∀ e ∈ ok.after, Region.binds md e = true → e.on ≠ i) → oi.apart ops ok = true := fun k ok hk hki hun hno => by
     refine hfree k ok hk hki ?_ hno
     by_cases hjk : j = k
     ·subst hjk; exact hjun
     ·rw [getD_set_ne true hjk] at hun; exact hun
    have h2 := wpOp_putC hoj hap (fun cs b => hsel i oi cs b hi) (fun cs b => hsel j oj cs b hoj) hQ hy h1
    have hri := ready_mono hr (Ne.symm hji)
    refine wpOp_mono (fun a' w' ⟨hy', C', hC', hsub', h3⟩ => ?_) h2
    have hsub : ∀ w, C' w → C w := hsub'.resolve_right fun hn => by
     obtain ⟨e, he, hb, hon⟩ := waitsAll_spec hn hoj hiH (Ne.symm hji)
     have h5 := hall e he hb
     rw [hon] at h5
     have h6 := getD_both (mem_ready.1 hr).1
     rw [h5] at h6
     cases h6
    refine ⟨C', hC', .inl hsub, ih (listed.setIfInBounds j true) C' a' w' hC' hfree' hri (hy'.sub hsub) ?_⟩
    rw [Array.setIfInBounds_comm _ _ hji]
    exact h3
def headC (md : Region.Mode) (ops : Array Oper) (next : Array Bool → Bool) : List Nat → Array Bool → Bool
 | [], listed => next listed
 | i :: r, listed => (Region.ready md ops listed).contains i && Region.free md ops listed i && ((ops[i]?).map plainKind).getD false && headC md ops next r (listed.setIfInBounds i true)
inductive Plan where
 | leaf (head : List Nat)
 | seg (head : List Nat) (t : Nat) (p : Plan)
 | last (head : List Nat) (t : Nat)
 | fork (head : List Nat) (t1 : Nat) (p1 : Plan) (t2 : Nat) (p2 : Plan)
def lenC : Plan → Nat
 | .leaf h => h.length
 | .seg h _ p => h.length + (lenC p + 1)
 | .last h _ => h.length + 1
 | .fork h _ p _ _ => h.length + (lenC p + 1)
def segC (md : Region.Mode) (ops : Array Oper) (H : List Nat) : Plan → Array Bool → Bool
 | .leaf h, listed => headC md ops (fun l => (Region.ready md ops l).isEmpty) h listed
 | .seg h t p, listed => headC md ops (fun l => decide (Region.ready md ops l = [t]) && segC md ops H p (l.setIfInBounds t true)) h listed
 | .last h t, listed => headC md ops (fun l => decide (Region.ready md ops l = [t]) && (waitsAll md ops H t && (Region.ready md ops (l.setIfInBounds t true)).isEmpty)) h listed
 | .fork h t1 p1 t2 p2, listed => headC md ops (fun l => decide (Region.ready md ops l = [t1, t2]) && (decide (lenC p1 = lenC p2) && (segC md ops H p1 (l.setIfInBounds t1 true) && segC md ops H p2 (l.setIfInBounds t2 true)))) h listed
def headsP : Plan → List Nat
 | .leaf h => h
 | .seg h _ p => h ++ headsP p
 | .last h _ => h
 | .fork h _ p1 _ p2 => h ++ (headsP p1 ++ headsP p2)
def mixB (md : Region.Mode) (ops : Array Oper) (p : Plan) : Bool :=
 Region.noSelect ops && decide (lenC p = ops.size) && segC md ops (headsP p) p (Array.replicate ops.size false)
def wpMix (P : Program) (ops : Array Oper) (Q : Exit → Act → World → Prop) (l : List Oper) : Plan → (World → Prop) → Act → World → Prop
 | .leaf h, C, a, w => wpQuiet P ops C (fun a' => Q .normal a' w) (pick l h) a
 | .seg h t p, C, a, w => wpQuiet P ops C (fun a' => wpList P ops (SegQ (fun a'' w'' => ∃ C' : World → Prop, C' w'' ∧ (∀ w, C' w → C w) ∧ wpMix P ops Q l p C' a'' w'') Q) (pick l [t]) a' w) (pick l h) a
 | .last h t, C, a, w => wpQuiet P ops C (fun a' => wpList P ops (SegQ (Q .normal) Q) (pick l [t]) a' w) (pick l h) a
 | .fork h t1 p1 t2 p2, C, a, w => wpQuiet P ops C (fun a' => wpList P ops (SegQ (fun a'' w'' => ∃ C' : World → Prop, C' w'' ∧ (∀ w, C' w → C w) ∧ wpMix P ops Q l p1 C' a'' w'') Q) (pick l [t1]) a' w ∧
  wpList P ops (SegQ (fun a'' w'' => ∃ C' : World → Prop, C' w'' ∧ (∀ w, C' w → C w) ∧ wpMix P ops Q l p2 C' a'' w'') Q) (pick l [t2]) a' w) (pick l h) a
theorem wpAnyC_head {H : List Nat} {next : Array Bool → Bool} {n : Nat} {K : Act → Prop} {C : World → Prop} {w : World} (hC : C w) (hs : Region.noSelect ops = true)
 (hn : ∀ listed a, next listed = true → K a → wpAnyC P md ops H Q n listed C a w) (hQ : ∀ c a d v w, Q (.panic c) (Act.put a d v) w → Q (.panic c) a w) :
 ∀ (head : List Nat) (listed : Array Bool) (a : Act), (∀ i ∈ head, i ∈ H) → headC md ops next head listed = true → wpQuiet P ops C K (pick ops.toList head) a → wpAnyC P md ops H Q (head.length + n) listed C a w
 | [], listed, a, _, hB, h => by
   simp only [List.length_nil, Nat.zero_add]
   exact hn listed a (by simpa [headC] using hB) (by simpa [pick, wpQuiet] using h)
 | i :: r, listed, a, hiH, hB, h => by
   simp only [headC, Bool.and_eq_true] at hB
   obtain ⟨⟨⟨hr, hf⟩, hk⟩, hB'⟩ := hB
   have hr' : i ∈ Region.ready md ops listed := by simpa using hr
   obtain ⟨hun, o, ho, _⟩ := mem_ready.1 hr'
   have hp : pick ops.toList (i :: r) = o :: pick ops.toList r := by
    have : ops.toList[i]? = some o := by simpa using ho
    exact List.filterMap_cons_some this
   rw [hp] at h
   have hpk : plainKind o = true := by rw [ho] at hk; simpa using hk
   have hst : ∃ v, YieldsC P ops C o v a ∧ wpQuiet P ops C K (pick ops.toList r) (a.put o.dst v) := by
    unfold wpQuiet at h
    split at h
    ·rename_i hw
     obtain ⟨v, hv, hn⟩ := h
     refine ⟨v, .inl ⟨hw, fun w' hw' => ?_⟩, hn⟩
     have h1 := hv w' hw'
     unfold Oper.quietAt at h1
     have hne := fun f args w'' => plain_run (P := P) hpk a.eval w' w'' f args
     generalize (execOp a.eval o).run P w' = res at *
     cases res with
     | ok nx w'' =>
       cases nx <;> simp only [Oper.quietUpon] at h1
       case value u => obtain ⟨rfl, rfl⟩ := h1; exact .inl rfl
       case skip => obtain ⟨rfl, rfl⟩ := h1; exact .inr ⟨rfl, rfl⟩
       case enter f args => exact absurd rfl (hne f args w'')
     | halt x w'' => simp only [Oper.quietUpon] at h1
    ·rename_i hw
     exact ⟨undef, .inr ⟨by simpa using hw, rfl⟩, h⟩
   obtain ⟨v, hy, hK⟩ := hst
   have IH := wpAnyC_head hC hs hn hQ r (listed.setIfInBounds i true) (a.put o.dst v) (fun j hj => hiH j (List.mem_cons_of_mem _ hj)) hB' hK
   rw [List.length_cons, show r.length + 1 + n = (r.length + n) + 1 by omega]
   exact wpAnyC_take (hiH i (List.mem_cons_self ..)) ho (Region.noSelect_spec hs) (fun c a w => hQ c a o.dst v w) _ listed C a w hC (Region.free_spec ho hf) hr' hy IH
theorem wpAnyC_tail {H : List Nat} {t n : Nat} {C : World → Prop} {p : Plan} {listed : Array Bool} {a : Act} {w : World} {o : Oper} (ho : ops[t]? = some o)
 (ih : ∀ (listed : Array Bool) (C : World → Prop) (a : Act) (w : World), C w → segC md ops H p listed = true → wpMix P ops Q ops.toList p C a w → wpAnyC P md ops H Q n listed C a w)
 (hB : segC md ops H p (listed.setIfInBounds t true) = true)
 (h : wpList P ops (SegQ (fun a'' w'' => ∃ C' : World → Prop, C' w'' ∧ (∀ w, C' w → C w) ∧ wpMix P ops Q ops.toList p C' a'' w'') Q) (pick ops.toList [t]) a w) :
 wpOp P ops Q t (fun a' w' => ∃ C' : World → Prop, C' w' ∧ ((∀ w, C' w → C w) ∨ waitsAll md ops H t = true) ∧ wpAnyC P md ops H Q n (listed.setIfInBounds t true) C' a' w') a w := by
 have hp : pick ops.toList [t] = [o] := by
  have : ops.toList[t]? = some o := by simpa using ho
  simp only [pick, List.filterMap_cons, this, List.filterMap_nil]
 rw [hp] at h
 have hw : wpOp P ops (SegQ (fun a'' w'' => ∃ C' : World → Prop, C' w'' ∧ (∀ w, C' w → C w) ∧ wpMix P ops Q ops.toList p C' a'' w'') Q) t (fun a' w' => wpList P ops (SegQ (fun a'' w'' => ∃ C' : World → Prop, C' w'' ∧ (∀ w, C' w → C w) ∧ wpMix P ops Q ops.toList p C' a'' w'') Q) [] a' w') a w := by
  unfold wpOp; simp only [ho]; exact h
 refine wpOp_mono (fun a' w' h' => ?_) (wpOp_unseg hw)
 obtain ⟨C', hC', hsub, h2⟩ := (by simpa [wpList, SegQ] using h' : ∃ C' : World → Prop, C' w' ∧ (∀ w, C' w → C w) ∧ wpMix P ops Q ops.toList p C' a' w')
 exact ⟨C', hC', .inl hsub, ih _ C' a' w' hC' hB h2⟩
theorem wpAnyC_last {H : List Nat} {t : Nat} {C : World → Prop} {listed : Array Bool} {a : Act} {w : World} {o : Oper} (ho : ops[t]? = some o)
 (hW : waitsAll md ops H t = true) (hB : Region.ready md ops (listed.setIfInBounds t true) = [])
 (h : wpList P ops (SegQ (Q .normal) Q) (pick ops.toList [t]) a w) :
 wpOp P ops Q t (fun a' w' => ∃ C' : World → Prop, C' w' ∧ ((∀ w, C' w → C w) ∨ waitsAll md ops H t = true) ∧ wpAnyC P md ops H Q 0 (listed.setIfInBounds t true) C' a' w') a w := by
 have hp : pick ops.toList [t] = [o] := by
  have : ops.toList[t]? = some o := by simpa using ho
  simp only [pick, List.filterMap_cons, this, List.filterMap_nil]
 rw [hp] at h
 have hw : wpOp P ops (SegQ (Q .normal) Q) t (fun a' w' => wpList P ops (SegQ (Q .normal) Q) [] a' w') a w := by
  unfold wpOp; simp only [ho]; exact h
 refine wpOp_mono (fun a' w' h' => ?_) (wpOp_unseg hw)
 exact ⟨fun _ => True, trivial, .inr hW, hB, by simpa [wpList, SegQ] using h'⟩
theorem wpAnyC_mix {H : List Nat} (hs : Region.noSelect ops = true) (hQ : ∀ c a d v w, Q (.panic c) (Act.put a d v) w → Q (.panic c) a w) :
 ∀ (p : Plan) (listed : Array Bool) (C : World → Prop) (a : Act) (w : World), (∀ i ∈ headsP p, i ∈ H) → C w → segC md ops H p listed = true →
 wpMix P ops Q ops.toList p C a w → wpAnyC P md ops H Q (lenC p) listed C a w
 | .leaf h, listed, C, a, w, hH, hC, hB, hh => by
   have := wpAnyC_head (next := fun l => (Region.ready md ops l).isEmpty) (n := 0) (K := fun a' => Q .normal a' w) hC hs (fun listed a hnx hK => ⟨by simpa using hnx, hK⟩) hQ h listed a hH (by simpa [segC] using hB) (by simpa [wpMix] using hh)
   simpa [lenC] using this
 | .seg h t p, listed, C, a, w, hH, hC, hB, hh => by
   unfold wpMix at hh
   unfold segC at hB
   refine wpAnyC_head (K := fun a' => wpList P ops (SegQ (fun a'' w'' => ∃ C' : World → Prop, C' w'' ∧ (∀ w, C' w → C w) ∧ wpMix P ops Q ops.toList p C' a'' w'') Q) (pick ops.toList [t]) a' w) hC hs ?_ hQ h listed a (fun j hj => hH j (List.mem_append_left _ hj)) hB hh
   intro listed1 a1 hB1 h1
   simp only [Bool.and_eq_true, decide_eq_true_eq] at hB1
   refine ⟨fun h2 => (by rw [hB1.1] at h2; cases h2), fun i hi => ?_⟩
   have hi0 := hi
   rw [hB1.1] at hi
   have hit : i = t := by simpa using hi
   subst hit
   obtain ⟨_, o, ho, _⟩ := mem_ready.1 hi0
   exact wpAnyC_tail ho (fun listed C a w => wpAnyC_mix hs hQ p listed C a w (fun j hj => hH j (List.mem_append_right _ hj))) hB1.2 h1
 | .last h t, listed, C, a, w, hH, hC, hB, hh => by
   unfold wpMix at hh
   unfold segC at hB
   refine wpAnyC_head (K := fun a' => wpList P ops (SegQ (Q .normal) Q) (pick ops.toList [t]) a' w) (n := 1) hC hs ?_ hQ h listed a hH hB hh
   intro listed1 a1 hB1 h1
   simp only [Bool.and_eq_true, decide_eq_true_eq, List.isEmpty_iff] at hB1
   refine ⟨fun h2 => (by rw [hB1.1] at h2; cases h2), fun i hi => ?_⟩
   have hi0 := hi
   rw [hB1.1] at hi
   have hit : i = t := by simpa using hi
   subst hit
   obtain ⟨_, o, ho, _⟩ := mem_ready.1 hi0
   exact wpAnyC_last ho hB1.2.1 hB1.2.2 h1
 | .fork h t1 p1 t2 p2, listed, C, a, w, hH, hC, hB, hh => by
   unfold wpMix at hh
   unfold segC at hB
   refine wpAnyC_head (K := fun a' => wpList P ops (SegQ (fun a'' w'' => ∃ C' : World → Prop, C' w'' ∧ (∀ w, C' w → C w) ∧ wpMix P ops Q ops.toList p1 C' a'' w'') Q) (pick ops.toList [t1]) a' w ∧
    wpList P ops (SegQ (fun a'' w'' => ∃ C' : World → Prop, C' w'' ∧ (∀ w, C' w → C w) ∧ wpMix P ops Q ops.toList p2 C' a'' w'') Q) (pick ops.toList [t2]) a' w) hC hs ?_ hQ h listed a (fun j hj => hH j (List.mem_append_left _ hj)) hB hh
   intro listed1 a1 hB1 h1
   simp only [Bool.and_eq_true, decide_eq_true_eq] at hB1
   obtain ⟨hr, hl, hb1, hb2⟩ := hB1
   refine ⟨fun h2 => (by rw [hr] at h2; cases h2), fun i hi => ?_⟩
   have hi0 := hi
   rw [hr] at hi
   obtain ⟨_, o, ho, _⟩ := mem_ready.1 hi0
   have hit : i = t1 ∨ i = t2 := by simpa using hi
   rcases hit with rfl | rfl
   ·exact wpAnyC_tail ho (fun listed C a w => wpAnyC_mix hs hQ p1 listed C a w (fun j hj => hH j (List.mem_append_right _ (List.mem_append_left _ hj)))) hb1 h1.1
   ·rw [hl]
    exact wpAnyC_tail ho (fun listed C a w => wpAnyC_mix hs hQ p2 listed C a w (fun j hj => hH j (List.mem_append_right _ (List.mem_append_right _ hj)))) hb2 h1.2
theorem wp_region_mix {id : Nat} {a : Act} {w : World} {l : List Oper} (p : Plan) (C : World → Prop) (hm : P.follows .mixedOrders = true) (hB : mixB .any l.toArray p = true)
 (hQ : ∀ c a d v w, Q (.panic c) (Act.put a d v) w → Q (.panic c) a w) (hC : C w.drew)
 (h : wpMix P l.toArray Q l p C a w.drew) : (Code.region id l.toArray true).wp P Q a w := by
 simp only [mixB, Bool.and_eq_true, decide_eq_true_eq] at hB
 obtain ⟨⟨hs, hlen⟩, hh⟩ := hB
 refine wp_region_any hm (wpAny_of_C (H := headsP p) _ _ C _ _ ?_)
 have H := wpAnyC_mix (P := P) (md := .any) (Q := Q) hs hQ p (Array.replicate l.toArray.size false) C a w.drew (fun _ h => h) hC hh (by simpa using h)
 rw [hlen] at H
 exact H
structure Wd (D : World → Prop) where
 w : World
 ok : D w
def ClsW (D : World → Prop) (w : World) : Prop := ∃ d : Wd D, w = d.w
theorem ClsW.mk {D : World → Prop} {w : World} (h : D w) : ClsW D w := ⟨⟨w, h⟩, rfl⟩
theorem ClsW.out {D : World → Prop} {w : World} (h : ClsW D w) : D w := by obtain ⟨d, rfl⟩ := h; exact d.ok
theorem ClsW.sub {D D' : World → Prop} (h : ∀ w, D' w → D w) : ∀ w, ClsW D' w → ClsW D w := fun _ hw => .mk (h _ hw.out)
end
end Go.Proofs.YtcmjgghkmdbphaaGreatDoor
namespace Go.Proofs.YtcmjgghkmdbphaaGreatDoor
theorem segw {P : Program} {ops : Array Oper} {Q : Exit → Act → World → Prop} {l : List Oper} {p : Plan} {a : Act} {w : World} {D : World → Prop} (h : D w) (k : wpMix P ops Q l p (fun w' => ∃ d : Wd D, w' = d.w) a w) :
 wpList P ops (SegQ (fun a'' w'' => ∃ C' : World → Prop, C' w'' ∧ (∀ w, C' w → ∃ d : Wd D, w = d.w) ∧ wpMix P ops Q l p C' a'' w'') Q) [] a w := by
 dsimp only [wpList, SegQ]
 exact ⟨_, ClsW.mk h, fun _ h => h, k⟩
end Go.Proofs.YtcmjgghkmdbphaaGreatDoor
namespace Go.Proofs.YtcmjgghkmdbphaaGreatDoor
open Go.RowKit
theorem zero_int (w : World) : (zeroValue 3).run Tryz.prog w = .ok (.int .i64 0) w := by kernel_rfl
def metOf (l : List Put) (s : Str) : Nat := (l.filter fun p => decide (p.stream = s)).length
def putB (l : List Put) (p : Put) : Bool :=
 nameB p.stream && (decide (metOf l p.stream = 0) && (decide (-1 ≤ p.expect) && (decide (p.expect ≤ 1099511627776) && (decide (p.data ≠ []) && decide (p.data = p.data.filter validB)))))
def putsB : List Put → List Put → Bool
 | _, [] => true
 | l, p :: r => putB l p && putsB (l ++ [p]) r
def mayB (b : Batch) : Bool := putsB [] b.puts && (keyB b.key && decide (b.puts ≠ []))
theorem strKey : KeyOk Tryz.prog 9 (fun s : ByteArray => Value.string s) := str_key Tryz.underlying9
theorem metOf_snoc (l : List Put) (p : Put) (s : Str) : metOf (l ++ [p]) s = metOf l s + (if p.stream = s then 1 else 0) := by
 unfold metOf; rw [List.filter_append, List.length_append]
 by_cases h : p.stream = s <;> simp [h]
theorem putsB_drop (l : List Put) (k : Nat) (h : k < l.length) : putsB (l.take k) (l.drop k) = (putB (l.take k) l[k] && putsB (l.take (k + 1)) (l.drop (k + 1))) := by
 rw [List.drop_eq_getElem_cons h, take_snoc _ _ h]; rfl
theorem putB_iff {l : List Put} {p : Put} : putB l p = true ↔ nameB p.stream = true ∧ metOf l p.stream = 0 ∧ -1 ≤ p.expect ∧ p.expect ≤ 1099511627776 ∧ p.data ≠ [] ∧ p.data = p.data.filter validB := by
 simp only [putB, Bool.and_eq_true, decide_eq_true_eq]
theorem strR_fits {w : World} {P : Nat → Prop} {A : Option Addr} {l : List Str} (h : StrR.Row w P A l) : ∀ s ∈ l, sfit s := fun s hs => by
 obtain ⟨j, hj, rfl⟩ := List.mem_iff_getElem.1 hs
 obtain ⟨b, o, cs, _, _, _, ⟨rfl, h'⟩, _⟩ := h.at_ (jg hj)
 exact h'
def On (W : World) (w : World) : Prop := Below W.heap.size W w
instance {W : World} : Nonempty (Wd (On W)) := ⟨⟨W, jb _ _⟩⟩
theorem On.cell {W : World} {b o : Nat} {v : Value} (h : W.cell? ⟨b, o, none⟩ = some v) (d : Wd (On W)) : d.w.cell? ⟨b, o, none⟩ = some v := (Below.cell (B := W.heap.size) (w := W) d.ok (p := ⟨b, o, none⟩) (lt_of_cell h)).trans h
theorem may_any (b : Batch) (A : Option Addr) (c : Nat) (P : Nat → Prop) (w : World) (hr : PutR.Row w P A b.puts) (hl : b.puts.length ≤ 1000000) (hk : sfit b.key) (hd : ∀ p ∈ b.puts, p.data.length ≤ 1000000) (hT : Tabs w) (h2 : 2 ≤ w.heap.size) :
 Calls Tryz.prog 208 #[.agg #[.string b.key, .slice A b.puts.length c]] w fun e w' => e = .returned (.bool (mayB b)) ∧ Below w.heap.size w w' := by
 have HR := jh (hr.mono (Q := fun g => g < w.heap.size) fun g _ h => h); clear hr
 have HD := jh hd; clear hd
 have HL := jh hl; clear hl
 have hmm := @run_makeMap Tryz.prog
 go_enter Tryz.func208, Tryz.ntmps208
 go_wp2_with fail
 go_loopw [5, 10] (fun _ i wr => ∃ (k : Nat) (ps : List (Str × Value)), k ≤ b.puts.length ∧ i = .int .i64 k ∧ MapAt (fun s => .string s) wr (w.heap.size + 1) ps ∧ (∀ s, (assocOf s ps).getD (.int .i64 0) = .int .i64 (metOf (b.puts.take k) s)) ∧
  Blk wr w.heap.size 25 [.string b.key, .slice A b.puts.length c] ∧ Below w.heap.size w wr ∧ putsB (b.puts.take k) (b.puts.drop k) = putsB [] b.puts) (fun _ i _ => b.puts.length - (intOf i).toNat)
 case atStart =>
  refine ⟨0, [], Nat.zero_le _, rfl, ?_, fun s => rfl, (Blk.new w _ _).alloc _, ((jb _ _).al _).al _, rfl⟩
  have := MapAt.new (enc := fun s : Str => Value.string s) (w.alloc (.cells #[.string b.key, .slice A b.puts.length c] 25))
  simpa using this
 case round =>
  obtain ⟨k, ps, hkl, rfl, hM, hps, hB, hbl, hpb⟩ := hrel
  have hsz := hM.lt
  have HPS := jh (ja hps hpb); clear hps hpb
  by_cases hlt : k < b.puts.length
  ·have hlk := jg hlt
   obtain ⟨bb, o, cs, rfl, hP, hbw, hrep, hcs⟩ := (HR.out.ext hbl).at_ hlk
   have hpd := putsB_drop b.puts k hlt
   have hts := take_snoc b.puts k hlt
   have hdl := HD.out _ (List.getElem_mem hlt)
   generalize b.puts[k] = p at hlk hrep hpd hts hdl
   obtain ⟨A2, q2, rfl, hf1, hf2, hf3, hf4, hrow⟩ := put_rep.1 hrep
   have c0 := hcs 0 _ rfl; have c1 := hcs 1 _ rfl; have c2 := hcs 2 _ rfl; simp only [PutR_size, Nat.add_zero] at c0 c1 c2
   have HPD := jh (ja hpd (ja hts hdl)); clear hpd hcs hrep hts hlk hdl
   have hlt' : (k : Int) < b.puts.length := by omega
   have hmt : ((metOf (b.puts.take k) p.stream : Nat) : Int) ≤ 1000000 := by
    have h1 : metOf (b.puts.take k) p.stream ≤ (b.puts.take k).length := List.length_filter_le _ _
    have h3 := HL.out
    simp at h1; omega
   have hM2 := hM.alloc (.cells #[.string p.stream, .int .i64 p.expect, .slice A2 p.data.length q2] 69)
   go_wp2_with (first
    | (at_lookup; refine wpList_lookup_map strKey rfl (.tmp 14) (.tmp 16) 337 false rfl Tryz.underlying337 rfl hM2 p.stream rfl _ (zero_int _) ?_; rw [if_neg (by simp), HPS.out.1])
    | (at_mapUpdate; refine wpList_mapUpdate_map strKey rfl rfl (.tmp 14) (.tmp 16) (.tmp 18) 337 rfl Tryz.underlying337 rfl hM2 p.stream rfl _ rfl ?_; intro w2 hM3 hO3))
   have hbx := (((Blk.new wr 69 [.string p.stream, .int .i64 p.expect, .slice A2 p.data.length q2]).only hO3 (by omega)))
   have hsm : Only (· = w.heap.size + 1) wr w2 := (Only.alloc _).tr hO3
   have hB2 := hB.only hsm (by omega)
   have hbl2 := hbl.trans (hsm.low (B := w.heap.size) (fun g hg => by omega) (by omega))
   have hrow2 := hrow.same (w' := w2) (Same.of_only hsm fun g hg => by omega) hsm.size
   have hbxlt := hbx.lt
   have hgo : (assocOf p.stream (assocPut p.stream (Value.int .i64 ((metOf (b.puts.take k) p.stream : Int) + 1)) ps)).getD (.int .i64 0) = .int .i64 ((metOf (b.puts.take k) p.stream : Int) + 1) := by
    rw [assocOf_put, if_pos rfl]; rfl
   have HPS2 := jh (show ∀ s, (assocOf s (assocPut p.stream (Value.int .i64 ((metOf (b.puts.take k) p.stream : Int) + 1)) ps)).getD (.int .i64 0) = .int .i64 (metOf (b.puts.take (k + 1)) s) from fun s => by
    rw [HPD.out.2.1, metOf_snoc, assocOf_put]
    by_cases hs : s = p.stream
    ·subst hs; rw [if_pos rfl, if_pos rfl]; rfl
    ·rw [if_neg hs, if_neg (fun e => hs e.symm), HPS.out.1, Nat.add_zero])
   have HPB := jh (show putsB (b.puts.take k) (b.puts.drop k) = putsB [] b.puts from HPS.out.2)
   clear HPS hM2 hM hB hbl hO3 c0 c1 c2 hsm hsz
   generalize wr.heap.size = bx at *
   have hM4 : MapAt (fun s => .string s) w2 (w.heap.size + 1) (assocPut p.stream (Value.int .i64 ((metOf (b.puts.take k) p.stream : Int) + 1)) ps) := hM3
   have HLK := jh (fun d : Wd (On w2) => run_lookup_map strKey Tryz.underlying337 (hM4.ext d.ok) p.stream (.int .i64 0) (zero_int d.w) false)
   clear hM3
   generalize hn0 : metOf (b.puts.take k) p.stream = n0 at *
   have FX : Hid (∀ W, Below w2.heap.size w2 W → (∀ d : Wd (On W), (Instr.lookup 337 (.map (some (w.heap.size + 1))) (.string p.stream) false).run Tryz.prog d.w = .ok (.int .i64 ((n0 : Int) + 1)) d.w) ∧
    (∀ d : Wd (On W), d.w.cell? ⟨bx, 0, none⟩ = some (.string p.stream)) ∧ (∀ d : Wd (On W), d.w.cell? ⟨bx, 1, none⟩ = some (.int .i64 p.expect)) ∧ (∀ d : Wd (On W), d.w.cell? ⟨bx, 2, none⟩ = some (.slice A2 p.data.length q2))) := jh fun W hW =>
    ⟨fun d => by
     have := HLK.out ⟨d.w, hW.tr d.ok⟩
     rw [if_neg (by simp), hgo] at this
     exact this, On.cell ((hbx.ext hW).cell 0), On.cell ((hbx.ext hW).cell 1), On.cell ((hbx.ext hW).cell 2)⟩
   have HN0 := jh hn0; clear hn0 HLK hgo
   have htt := HPD.out.1
   have HTS := jh (show b.puts.take (k + 1) = b.puts.take k ++ [p] from HPD.out.2.1)
   -- a batch that may not be
   have bad : putB (b.puts.take k) p = false → false = mayB b := fun h => by
    unfold mayB
    rw [← HPB.out, HPD.out.1, h]; rfl
   have HBAD := jh bad
   clear htt bad
   have hcase : nameB p.stream = false ∨ (nameB p.stream = true ∧ n0 ≠ 0) ∨ (nameB p.stream = true ∧ n0 = 0 ∧ p.expect < -1) ∨ (nameB p.stream = true ∧ n0 = 0 ∧ ¬ p.expect < -1 ∧ 1099511627776 < p.expect) ∨
    (nameB p.stream = true ∧ n0 = 0 ∧ ¬ p.expect < -1 ∧ ¬ 1099511627776 < p.expect ∧ p.data.length = 0) ∨
    (nameB p.stream = true ∧ n0 = 0 ∧ ¬ p.expect < -1 ∧ ¬ 1099511627776 < p.expect ∧ p.data.length ≠ 0) := by
    cases h : nameB p.stream
    ·exact Or.inl rfl
    ·by_cases n0 = 0 <;> by_cases p.expect < -1 <;> by_cases 1099511627776 < p.expect <;> by_cases p.data.length = 0 <;> simp only [*, and_true, or_false, ne_eq, not_true_eq_false, not_false_eq_true, or_true, and_false]
   rcases hcase with g | g | g | g | g | g
   ·have G1 := jh g
    clear g
    obtain ⟨hlk, x0, x1, x2⟩ := FX.out w2 (jb _ _)
    refine wp_region_mix (.seg [0, 1] 2 (.seg [3, 4, 5, 6, 7, 8, 9, 10, 11, 12, 13, 14, 15, 16, 17, 18, 19, 20, 21, 22, 23, 24, 25, 26, 27, 28, 29, 30, 31] 32 (.seg [] 33 (.leaf [34, 35])))) (fun w' => ∃ d : Wd (On w2), w' = d.w) (by kernel_rfl) (by kernel_rfl) (fun _ _ d _ _ h => by cases d <;> exact h) (ClsW.mk (jb _ _).drew) ?_
    unfold wpMix; simp only [pick, j1, j2, j3, j4]
    (repeat (show wpQuiet _ _ _ _ (_ :: _) _; go_big_quiet_step (fail))); refine qn ?_
    go_wp2_with fail
    refine (nameF p.stream _ hf1 (hT.below hbl2.drew)).mono ?_
    rintro e w3 ⟨rfl, hb3'⟩
    have hb3 : Below w2.heap.size w2 w3 := (jb _ w2).drew.tr hb3'
    clear hb3'
    have g := G1.out
    skip
    rw [show nameB p.stream = false from g]
    clear hlk x0 x1 x2 g
    obtain ⟨hlk, x0, x1, x2⟩ := FX.out w3 hb3
    go_wp2_with fail
    dsimp only [wpList, SegQ]
    refine ⟨fun w' => ∃ d : Wd (On w3), w' = d.w, ClsW.mk (jb _ _), ClsW.sub (fun W' h => hb3.tr h), ?_⟩
    unfold wpMix; simp only [pick, j1, j2, j3, j4]
    (repeat (show wpQuiet _ _ _ _ (_ :: _) _; go_big_quiet_step (fail))); refine qn ?_
    go_wp2_with fail
    dsimp only [wpList, SegQ]
    refine ⟨fun w' => ∃ d : Wd (On w3), w' = d.w, ClsW.mk (jb _ _), fun _ h => h, ?_⟩
    unfold wpMix; simp only [pick, j1, j2, j3, j4]
    (repeat (show wpQuiet _ _ _ _ (_ :: _) _; go_big_quiet_step (fail))); refine qn ?_
    go_wp2_with fail
    dsimp only [wpList, SegQ]
    refine ⟨fun w' => ∃ d : Wd (On w3), w' = d.w, ClsW.mk (jb _ _), fun _ h => h, ?_⟩
    unfold wpMix; simp only [pick, j1, j2, j3, j4]
    (repeat (show wpQuiet _ _ _ _ (_ :: _) _; go_big_quiet_step (fail))); refine qn ?_
    go_wp2_with fail
    go_ret
    refine ⟨ret_bool (HBAD.out (Bool.eq_false_iff.2 fun h => ?_)), hbl2.tr hb3⟩
    have h := putB_iff.1 h
    rw [HN0.out] at h
    have g := G1.out
    rw [g] at h ; exact absurd h.1 (by simp)
   ·have G2 := jh g
    clear g
    obtain ⟨hlk, x0, x1, x2⟩ := FX.out w2 (jb _ _)
    refine wp_region_mix (.seg [0, 1] 2 (.seg [3, 4, 5, 6, 7, 8, 9, 10, 11, 12, 13, 14, 15, 16, 17, 18, 19, 20, 21, 22, 23, 24, 25, 26, 27, 28, 29, 30, 31] 32 (.seg [] 33 (.leaf [34, 35])))) (fun w' => ∃ d : Wd (On w2), w' = d.w) (by kernel_rfl) (by kernel_rfl) (fun _ _ d _ _ h => by cases d <;> exact h) (ClsW.mk (jb _ _).drew) ?_
    unfold wpMix; simp only [pick, j1, j2, j3, j4]
    (repeat (show wpQuiet _ _ _ _ (_ :: _) _; go_big_quiet_step (fail))); refine qn ?_
    go_wp2_with fail
    refine (nameF p.stream _ hf1 (hT.below hbl2.drew)).mono ?_
    rintro e w3 ⟨rfl, hb3'⟩
    have hb3 : Below w2.heap.size w2 w3 := (jb _ w2).drew.tr hb3'
    clear hb3'
    have g := G2.out
    (have g1 : (1 : Int) < (n0 : Int) + 1 := by have := g.2 ; omega)
    rw [g.1]
    clear hlk x0 x1 x2 g
    obtain ⟨hlk, x0, x1, x2⟩ := FX.out w3 hb3
    go_wp2_with fail
    dsimp only [wpList, SegQ]
    refine ⟨fun w' => ∃ d : Wd (On w3), w' = d.w, ClsW.mk (jb _ _), ClsW.sub (fun W' h => hb3.tr h), ?_⟩
    unfold wpMix; simp only [pick, j1, j2, j3, j4]
    (repeat (show wpQuiet _ _ _ _ (_ :: _) _; go_big_quiet_step (fail))); refine qn ?_
    go_wp2_with fail
    dsimp only [wpList, SegQ]
    refine ⟨fun w' => ∃ d : Wd (On w3), w' = d.w, ClsW.mk (jb _ _), fun _ h => h, ?_⟩
    unfold wpMix; simp only [pick, j1, j2, j3, j4]
    (repeat (show wpQuiet _ _ _ _ (_ :: _) _; go_big_quiet_step (fail))); refine qn ?_
    go_wp2_with fail
    dsimp only [wpList, SegQ]
    refine ⟨fun w' => ∃ d : Wd (On w3), w' = d.w, ClsW.mk (jb _ _), fun _ h => h, ?_⟩
    unfold wpMix; simp only [pick, j1, j2, j3, j4]
    (repeat (show wpQuiet _ _ _ _ (_ :: _) _; go_big_quiet_step (fail))); refine qn ?_
    go_wp2_with fail
    go_ret
    refine ⟨ret_bool (HBAD.out (Bool.eq_false_iff.2 fun h => ?_)), hbl2.tr hb3⟩
    have h := putB_iff.1 h
    rw [HN0.out] at h
    have g := G2.out
    exact g.2 h.2.1
   ·have G3 := jh g
    clear g
    obtain ⟨hlk, x0, x1, x2⟩ := FX.out w2 (jb _ _)
    refine wp_region_mix (.seg [0, 1] 2 (.seg [3, 4, 5, 6, 7, 8, 9, 10, 11, 12, 13, 14, 15, 16, 17, 18, 19, 20, 21, 22, 23, 24, 25, 26, 27, 28, 29, 30, 31] 32 (.seg [] 33 (.leaf [34, 35])))) (fun w' => ∃ d : Wd (On w2), w' = d.w) (by kernel_rfl) (by kernel_rfl) (fun _ _ d _ _ h => by cases d <;> exact h) (ClsW.mk (jb _ _).drew) ?_
    unfold wpMix; simp only [pick, j1, j2, j3, j4]
    (repeat (show wpQuiet _ _ _ _ (_ :: _) _; go_big_quiet_step (fail))); refine qn ?_
    go_wp2_with fail
    refine (nameF p.stream _ hf1 (hT.below hbl2.drew)).mono ?_
    rintro e w3 ⟨rfl, hb3'⟩
    have hb3 : Below w2.heap.size w2 w3 := (jb _ w2).drew.tr hb3'
    clear hb3'
    have g := G3.out
    (have g1 : decide ((1 : Int) < (n0 : Int) + 1) = false := jd (by omega)) ; (have g2 : p.expect < -1 := g.2.2)
    rw [g.1]
    clear hlk x0 x1 x2 g
    obtain ⟨hlk, x0, x1, x2⟩ := FX.out w3 hb3
    go_wp2_with fail
    dsimp only [wpList, SegQ]
    refine ⟨fun w' => ∃ d : Wd (On w3), w' = d.w, ClsW.mk (jb _ _), ClsW.sub (fun W' h => hb3.tr h), ?_⟩
    unfold wpMix; simp only [pick, j1, j2, j3, j4]
    (repeat (show wpQuiet _ _ _ _ (_ :: _) _; go_big_quiet_step (fail))); refine qn ?_
    go_wp2_with fail
    dsimp only [wpList, SegQ]
    refine ⟨fun w' => ∃ d : Wd (On w3), w' = d.w, ClsW.mk (jb _ _), fun _ h => h, ?_⟩
    unfold wpMix; simp only [pick, j1, j2, j3, j4]
    (repeat (show wpQuiet _ _ _ _ (_ :: _) _; go_big_quiet_step (fail))); refine qn ?_
    go_wp2_with fail
    dsimp only [wpList, SegQ]
    refine ⟨fun w' => ∃ d : Wd (On w3), w' = d.w, ClsW.mk (jb _ _), fun _ h => h, ?_⟩
    unfold wpMix; simp only [pick, j1, j2, j3, j4]
    (repeat (show wpQuiet _ _ _ _ (_ :: _) _; go_big_quiet_step (fail))); refine qn ?_
    go_wp2_with fail
    go_ret
    refine ⟨ret_bool (HBAD.out (Bool.eq_false_iff.2 fun h => ?_)), hbl2.tr hb3⟩
    have h := putB_iff.1 h
    rw [HN0.out] at h
    have g := G3.out
    have := h.2.2.1 ; omega
   ·have G4 := jh g
    clear g
    obtain ⟨hlk, x0, x1, x2⟩ := FX.out w2 (jb _ _)
    refine wp_region_mix (.seg [0, 1] 2 (.seg [3, 4, 5, 6, 7, 8, 9, 10, 11, 12, 13, 14, 15, 16, 17, 18, 19, 20, 21, 22, 23, 24, 25, 26, 27, 28, 29, 30, 31] 32 (.seg [] 33 (.leaf [34, 35])))) (fun w' => ∃ d : Wd (On w2), w' = d.w) (by kernel_rfl) (by kernel_rfl) (fun _ _ d _ _ h => by cases d <;> exact h) (ClsW.mk (jb _ _).drew) ?_
    unfold wpMix; simp only [pick, j1, j2, j3, j4]
    (repeat (show wpQuiet _ _ _ _ (_ :: _) _; go_big_quiet_step (fail))); refine qn ?_
    go_wp2_with fail
    refine (nameF p.stream _ hf1 (hT.below hbl2.drew)).mono ?_
    rintro e w3 ⟨rfl, hb3'⟩
    have hb3 : Below w2.heap.size w2 w3 := (jb _ w2).drew.tr hb3'
    clear hb3'
    have g := G4.out
    (have g1 : decide ((1 : Int) < (n0 : Int) + 1) = false := jd (by omega)) ; (have g2 : decide (p.expect < -1) = false := jd (by have := g.2.2.1 ; omega)) ; (have g3 : 1099511627776 < p.expect := g.2.2.2)
    rw [g.1]
    clear hlk x0 x1 x2 g
    obtain ⟨hlk, x0, x1, x2⟩ := FX.out w3 hb3
    go_wp2_with fail
    dsimp only [wpList, SegQ]
    refine ⟨fun w' => ∃ d : Wd (On w3), w' = d.w, ClsW.mk (jb _ _), ClsW.sub (fun W' h => hb3.tr h), ?_⟩
    unfold wpMix; simp only [pick, j1, j2, j3, j4]
    (repeat (show wpQuiet _ _ _ _ (_ :: _) _; go_big_quiet_step (fail))); refine qn ?_
    go_wp2_with fail
    dsimp only [wpList, SegQ]
    refine ⟨fun w' => ∃ d : Wd (On w3), w' = d.w, ClsW.mk (jb _ _), fun _ h => h, ?_⟩
    unfold wpMix; simp only [pick, j1, j2, j3, j4]
    (repeat (show wpQuiet _ _ _ _ (_ :: _) _; go_big_quiet_step (fail))); refine qn ?_
    go_wp2_with fail
    dsimp only [wpList, SegQ]
    refine ⟨fun w' => ∃ d : Wd (On w3), w' = d.w, ClsW.mk (jb _ _), fun _ h => h, ?_⟩
    unfold wpMix; simp only [pick, j1, j2, j3, j4]
    (repeat (show wpQuiet _ _ _ _ (_ :: _) _; go_big_quiet_step (fail))); refine qn ?_
    go_wp2_with fail
    go_ret
    refine ⟨ret_bool (HBAD.out (Bool.eq_false_iff.2 fun h => ?_)), hbl2.tr hb3⟩
    have h := putB_iff.1 h
    rw [HN0.out] at h
    have g := G4.out
    have := h.2.2.2.1 ; omega
   ·have G5 := jh g
    clear g
    obtain ⟨hlk, x0, x1, x2⟩ := FX.out w2 (jb _ _)
    refine wp_region_mix (.seg [0, 1] 2 (.seg [3, 4, 5, 6, 7, 8, 9, 10, 11, 12, 13, 14, 15, 16, 17, 18, 19, 20, 21, 22, 23, 24, 25, 26, 27, 28, 29, 30, 31] 32 (.seg [] 33 (.leaf [34, 35])))) (fun w' => ∃ d : Wd (On w2), w' = d.w) (by kernel_rfl) (by kernel_rfl) (fun _ _ d _ _ h => by cases d <;> exact h) (ClsW.mk (jb _ _).drew) ?_
    unfold wpMix; simp only [pick, j1, j2, j3, j4]
    (repeat (show wpQuiet _ _ _ _ (_ :: _) _; go_big_quiet_step (fail))); refine qn ?_
    go_wp2_with fail
    refine (nameF p.stream _ hf1 (hT.below hbl2.drew)).mono ?_
    rintro e w3 ⟨rfl, hb3'⟩
    have hb3 : Below w2.heap.size w2 w3 := (jb _ w2).drew.tr hb3'
    clear hb3'
    have g := G5.out
    (have g1 : decide ((1 : Int) < (n0 : Int) + 1) = false := jd (by omega)) ; (have g2 : decide (p.expect < -1) = false := jd (by have := g.2.2.1 ; omega)) ; (have g3 : decide (1099511627776 < p.expect) = false := jd (by have := g.2.2.2.1 ; omega)) ; (have g4 : p.data.length = 0 := g.2.2.2.2)
    rw [g.1]
    clear hlk x0 x1 x2 g
    obtain ⟨hlk, x0, x1, x2⟩ := FX.out w3 hb3
    go_wp2_with fail
    dsimp only [wpList, SegQ]
    refine ⟨fun w' => ∃ d : Wd (On w3), w' = d.w, ClsW.mk (jb _ _), ClsW.sub (fun W' h => hb3.tr h), ?_⟩
    unfold wpMix; simp only [pick, j1, j2, j3, j4]
    (repeat (show wpQuiet _ _ _ _ (_ :: _) _; go_big_quiet_step (fail))); refine qn ?_
    go_wp2_with fail
    dsimp only [wpList, SegQ]
    refine ⟨fun w' => ∃ d : Wd (On w3), w' = d.w, ClsW.mk (jb _ _), fun _ h => h, ?_⟩
    unfold wpMix; simp only [pick, j1, j2, j3, j4]
    (repeat (show wpQuiet _ _ _ _ (_ :: _) _; go_big_quiet_step (fail))); refine qn ?_
    go_wp2_with fail
    dsimp only [wpList, SegQ]
    refine ⟨fun w' => ∃ d : Wd (On w3), w' = d.w, ClsW.mk (jb _ _), fun _ h => h, ?_⟩
    unfold wpMix; simp only [pick, j1, j2, j3, j4]
    (repeat (show wpQuiet _ _ _ _ (_ :: _) _; go_big_quiet_step (fail))); refine qn ?_
    go_wp2_with fail
    go_ret
    refine ⟨ret_bool (HBAD.out (Bool.eq_false_iff.2 fun h => ?_)), hbl2.tr hb3⟩
    have h := putB_iff.1 h
    rw [HN0.out] at h
    have g := G5.out
    exact h.2.2.2.2.1 (List.length_eq_zero_iff.1 g.2.2.2.2)
   ·have G6 := jh g
    clear g
    have g1 : decide ((1 : Int) < (n0 : Int) + 1) = false := jd (by have := G6.out.2.1; omega)
    have g2 : decide (p.expect < -1) = false := jd (by have := G6.out.2.2.1; omega)
    have g3 : decide (1099511627776 < p.expect) = false := jd (by have := G6.out.2.2.2.1; omega)
    have g4 : ((p.data.length : Int) == 0) = false := by rw [beq_eq_false_iff_ne]; have := G6.out.2.2.2.2; omega
    have HROW := jh hrow2
    obtain ⟨hlk, x0, x1, x2⟩ := FX.out w2 (jb _ _)
    refine wp_region_mix (.seg [0, 1] 2 (.seg [3, 4, 5, 6, 7, 8, 9, 10, 11, 12, 13, 14, 15, 16, 17, 18, 19, 20, 21, 22, 23, 24, 25, 26, 27, 28, 29, 30, 31] 32 (.seg [] 33 (.leaf [34, 35])))) (fun w' => ∃ d : Wd (On w2), w' = d.w) (by kernel_rfl) (by kernel_rfl) (fun _ _ d _ _ h => by cases d <;> exact h) (ClsW.mk (jb _ _).drew) ?_
    unfold wpMix; simp only [pick, j1, j2, j3, j4]
    (repeat (show wpQuiet _ _ _ _ (_ :: _) _; go_big_quiet_step (fail))); refine qn ?_
    go_wp2_with fail
    refine (nameF p.stream _ hf1 (hT.below hbl2.drew)).mono ?_
    rintro e w3 ⟨rfl, hb3'⟩
    have hb3 : Below w2.heap.size w2 w3 := (jb _ w2).drew.tr hb3'
    clear hb3'
    rw [G6.out.1]
    clear hlk x0 x1 x2
    obtain ⟨hlk, x0, x1, x2⟩ := FX.out w3 hb3
    go_wp2_with fail
    dsimp only [wpList, SegQ]
    refine ⟨fun w' => ∃ d : Wd (On w3), w' = d.w, ClsW.mk (jb _ _), ClsW.sub (fun W' h => hb3.tr h), ?_⟩
    unfold wpMix; simp only [pick, j1, j2, j3, j4]
    (repeat (show wpQuiet _ _ _ _ (_ :: _) _; go_big_quiet_step (fail))); refine qn ?_
    go_wp2_with fail
    refine (validL_any A2 q2 p.data _ w3 (HROW.out.ext hb3) (by have := HPD.out.2.2; omega) (strR_fits HROW.out) (hT.below (hbl2.tr hb3)) (by have := hb3.size; have := hbl2.size; omega)).mono ?_
    rintro e w4 ⟨⟨v4, rfl, ho4⟩, hb4⟩
    obtain ⟨A4, c4, rfl, hm4, hc4⟩ := ho4.form
    clear hlk x0 x1 x2
    obtain ⟨hlk, x0, x1, x2⟩ := FX.out w4 (hb3.tr hb4)
    go_wp2_with fail
    dsimp only [wpList, SegQ]
    refine ⟨fun w' => ∃ d : Wd (On w4), w' = d.w, ClsW.mk (jb _ _), ClsW.sub (fun W' h => hb4.tr h), ?_⟩
    unfold wpMix; simp only [pick, j1, j2, j3, j4]
    (repeat (show wpQuiet _ _ _ _ (_ :: _) _; go_big_quiet_step (fail))); refine qn ?_
    go_wp2_with fail
    refine (equal_any A2 A4 q2 c4 p.data (p.data.filter validB) _ _ w4 (HROW.out.ext (hb3.tr hb4)) (ho4.row (fun g h => Or.inl h)) (by have := HPD.out.2.2; omega) (by have := HPD.out.2.2; have := List.length_filter_le validB p.data; omega)).mono ?_
    rintro e w5 ⟨rfl, hb5⟩
    clear hlk x0 x1 x2
    generalize hq : decide (p.data = p.data.filter validB) = q
    have HQ := jh hq
    clear hq
    have hb52 := hb3.tr (hb4.tr hb5)
    have HWK : Hid (wrap64 ((k : Int) + 1) = ((k + 1 : Nat) : Int)) := jh <| by have := HL.out; rw [wrap_in _ (by omega)]; rfl
    cases q
    ·go_wp2_with fail
     dsimp only [wpList, SegQ]
     refine ⟨fun w' => ∃ d : Wd (On w5), w' = d.w, ClsW.mk (jb _ _), ClsW.sub (fun W' h => hb5.tr h), ?_⟩
     unfold wpMix; simp only [pick, j1, j2, j3, j4]
     (repeat (show wpQuiet _ _ _ _ (_ :: _) _; go_big_quiet_step (fail))); refine qn ?_
     go_wp2_with fail
     go_ret
     refine ⟨ret_bool (HBAD.out (Bool.eq_false_iff.2 fun h => ?_)), hbl2.tr hb52⟩
     have h := putB_iff.1 h
     have g := HQ.out
     rw [decide_eq_false_iff_not] at g
     exact g h.2.2.2.2.2
    ·go_wp2_with fail
     dsimp only [wpList, SegQ]
     refine ⟨fun w' => ∃ d : Wd (On w5), w' = d.w, ClsW.mk (jb _ _), ClsW.sub (fun W' h => hb5.tr h), ?_⟩
     unfold wpMix; simp only [pick, j1, j2, j3, j4]
     (repeat (show wpQuiet _ _ _ _ (_ :: _) _; go_big_quiet_step (fail))); refine qn ?_
     go_wp2_with fail
     go_round
     case rel =>
      refine ⟨k + 1, _, by omega, by rw [HWK.out], hM4.ext hb52, HPS2.out, hB2.ext hb52, hbl2.tr hb52, ?_⟩
      have h := HPB.out
      rw [HPD.out.1, putB_iff.2 ⟨G6.out.1, by rw [HN0.out, G6.out.2.1], by have := G6.out.2.2.1; omega, by have := G6.out.2.2.2.1; omega, fun e => G6.out.2.2.2.2 (by rw [e]; rfl), of_decide_eq_true HQ.out⟩, Bool.true_and] at h
      exact h
     case measure => rw [HWK.out]; simp [intOf]; omega
  ·have hk : k = b.puts.length := by omega
   subst hk
   have hpe : putsB [] b.puts = true := by rw [← HPS.out.2, List.drop_length]; cases b.puts.take b.puts.length <;> rfl
   have HPE := jh hpe
   clear hpe hM
   have b0 : wr.cell? ⟨w.heap.size, 0, none⟩ = some (.string b.key) := hB.cell 0
   have C := keyF b.key wr hk (hT.below hbl)
   go_wp2_with fail
   refine C.mono ?_
   clear C b0
   rintro e w6 ⟨rfl, hb6⟩
   have b1 : w6.cell? ⟨w.heap.size, 1, none⟩ = some (.slice A b.puts.length c) := (hB.ext hb6).cell 1
   generalize hq : keyB b.key = q
   have HQ := jh hq
   clear hq
   cases q
   ·go_wp2_with fail
    go_ret
    exact ⟨ret_bool (by unfold mayB; rw [HPE.out, HQ.out]; rfl), hbl.tr hb6⟩
   ·by_cases hl0 : 0 < b.puts.length
    ·have hl1 : (0 : Int) < b.puts.length := by omega
     go_wp2_with fail
     go_ret
     exact ⟨ret_bool (by unfold mayB; rw [HPE.out, HQ.out]; simp; intro h; rw [h] at hl0; exact absurd hl0 (by simp)), hbl.tr hb6⟩
    ·have hl1 : decide ((0 : Int) < b.puts.length) = false := jd (by omega)
     go_wp2_with fail
     go_ret
     exact ⟨ret_bool (by unfold mayB; rw [HPE.out, HQ.out]; simp; apply List.length_eq_zero_iff.1; omega), hbl.tr hb6⟩
end Go.Proofs.YtcmjgghkmdbphaaGreatDoor
