/- A runner for closed calls, part 6: Ym Yn Yo Yp Yq Yr. -/
import Derived.Test.YtkcgggobcnlnpaaGreatDoorKne
import Derived.AtR
namespace Go.Proofs.YtkcgggobcnlnpaaGreatDoor.X
open Go.RowKit

section
variable {P : Program} {b : Base} {ρ : Ren} {s : St} {w : World}

theorem flatRun_bind {α β : Type} {f : α → Sem β} {r : β} : ∀ (x : Sem α), flatRun P (x.bind f) = some r → ∃ a, flatRun P x = some a ∧ flatRun P (f a) = some r
  | .pure a, h => ⟨a, rfl, h⟩
  | .program k, h => flatRun_bind (k P) h
  | .mark _ k, h => flatRun_bind k h
  | .load .., h | .store .., h | .new .., h | .shape .., h | .freeze .., h | .frozen .., h | .getObj .., h | .setObj .., h | .choose .., h | .sys .., h | .halt _, h => by simp [flatRun, Sem.bind] at h

/-- The same keys. -/
inductive Keys : List MapEntry → List MapEntry → Prop
  | nil : Keys [] []
  | cons (e e' : MapEntry) (l l' : List MapEntry) (h : e'.key = e.key) (t : Keys l l') : Keys (e :: l) (e' :: l')
def sameAt (es' : List MapEntry) (i : Nat) (r : Option (Nat × Value)) (r' : Option (Nat × Value)) : Prop :=
  match r with
  | none => r' = none
  | some (j, _) => i ≤ j ∧ ∃ e, es'[j - i]? = some e ∧ r' = some (j, e.val)
theorem findNow_keys (kind : TypeDesc) (k : Value) : ∀ {es es' : List MapEntry}, Keys es es' → ∀ (i : Nat), (Instr.findNow kind k es i = none ∧ Instr.findNow kind k es' i = none) ∨ ∃ r r', Instr.findNow kind k es i = some r ∧ Instr.findNow kind k es' i = some r' ∧ sameAt es' i r r'
  | _, _, .nil, i => .inr ⟨none, none, rfl, rfl, rfl⟩
  | _, _, .cons e e' l l' h t, i => by
    unfold Instr.findNow
    rw [h]
    cases hs : Instr.sameNow kind k e.key with
    | none => exact .inl ⟨rfl, rfl⟩
    | some c =>
      cases c with
      | true => exact .inr ⟨_, _, rfl, rfl, Nat.le_refl _, e', by simp, rfl⟩
      | false =>
        rcases findNow_keys kind k t (i + 1) with ⟨h1, h2⟩ | ⟨r, r', h1, h2, h3⟩
        · exact .inl ⟨h1, h2⟩
        · refine .inr ⟨r, r', h1, h2, ?_⟩
          cases r with
          | none => exact h3
          | some q =>
            obtain ⟨j, v⟩ := q
            obtain ⟨h4, e2, h5, h6⟩ := h3
            exact ⟨by omega, e2, by rw [show j - i = (j - (i + 1)) + 1 by omega, List.getElem?_cons_succ]; exact h5, h6⟩
theorem findAsking_keys (kt : TypeId) (k : Value) : ∀ {es es' : List MapEntry}, Keys es es' → ∀ (i : Nat) {r : Option (Nat × Value)}, flatRun P (Instr.findAsking kt k es i) = some r → ∀ w, ∃ r', (Instr.findAsking kt k es' i).run P w = .ok r' w ∧ sameAt es' i r r'
  | _, _, .nil, i, r, h, w => by
    have : r = none := by simpa [Instr.findAsking, flatRun, pure] using h.symm
    subst this
    exact ⟨none, rfl, rfl⟩
  | _, _, .cons e e' l l' h t, i, r, hr, w => by
    unfold Instr.findAsking at hr ⊢
    obtain ⟨c, h1, h2⟩ := flatRun_bind _ hr
    have h3 := flat_run _ h1 w
    rw [← h] at h3
    simp only [Sem.run_bind, h3, Result.andThen_ok]
    cases c with
    | true =>
      simp only [if_true] at h2 ⊢
      have : r = some (i, e.val) := by simpa [flatRun, pure] using h2.symm
      subst this
      exact ⟨_, rfl, Nat.le_refl _, e', by simp, rfl⟩
    | false =>
      simp only [Bool.false_eq_true, if_false] at h2 ⊢
      obtain ⟨r', h4, h5⟩ := findAsking_keys kt k t (i + 1) h2 w
      refine ⟨r', h4, ?_⟩
      cases r with
      | none => exact h5
      | some q =>
        obtain ⟨j, v⟩ := q
        obtain ⟨h6, e2, h7, h8⟩ := h5
        exact ⟨by omega, e2, by rw [show j - i = (j - (i + 1)) + 1 by omega, List.getElem?_cons_succ]; exact h7, h8⟩
theorem findKey_keys (kt : TypeId) (k : Value) {es es' : List MapEntry} (h : Keys es es') {r : Option (Nat × Value)} (hr : flatRun P (Instr.findKey kt k es) = some r) (w : World) : ∃ r', (Instr.findKey kt k es').run P w = .ok r' w ∧ sameAt es' 0 r r' := by
  unfold Instr.findKey at hr ⊢
  obtain ⟨d, h1, h2⟩ := flatRun_bind _ hr
  have h3 := flat_run _ h1 w
  simp only [Sem.run_bind, h3, Result.andThen_ok]
  rcases findNow_keys d k h 0 with ⟨h4, h5⟩ | ⟨q, q', h4, h5, h6⟩
  · rw [h4] at h2
    rw [h5]
    exact findAsking_keys kt k h 0 h2 w
  · rw [h4] at h2
    rw [h5]
    have : r = q := by simpa [flatRun, pure] using h2.symm
    subst this
    exact ⟨q', rfl, h6⟩

theorem erel_keys : ∀ {es es' : List MapEntry}, ERel ρ es es' → (es.all fun e => flat e.key) = true → Keys (es.map plainE) es'
  | _, _, .nil, _ => .nil
  | _, _, .cons e e' l l' h t, k => by
    simp only [List.all_cons, Bool.and_eq_true] at k
    exact .cons _ _ _ _ (flat_eq h.1 k.1) (erel_keys t k.2)
theorem ERel.length : ∀ {es es' : List MapEntry}, ERel ρ es es' → es.length = es'.length
  | _, _, .nil => rfl
  | _, _, .cons _ _ _ _ _ t => by simp [ERel.length t]
theorem ERel.get : ∀ {es es' : List MapEntry}, ERel ρ es es' → ∀ {i : Nat} {e : MapEntry}, es[i]? = some e → ∃ e', es'[i]? = some e' ∧ VRels ρ e e'
  | _, _, .nil, _, _, h => by simp at h
  | _, _, .cons e e' l l' h t, 0, _, k => by simp at k; subst k; exact ⟨e', by simp, h⟩
  | _, _, .cons e e' l l' h t, i + 1, _, k => by simp at k ⊢; exact ERel.get t k
theorem ERel.append : ∀ {a a' c c' : List MapEntry}, ERel ρ a a' → ERel ρ c c' → ERel ρ (a ++ c) (a' ++ c')
  | _, _, _, _, .nil, h => h
  | _, _, _, _, .cons _ _ _ _ h t, k => .cons _ _ _ _ h (ERel.append t k)
theorem ERel.set : ∀ {es es' : List MapEntry}, ERel ρ es es' → ∀ {e e' : MapEntry}, VRels ρ e e' → ∀ i, ERel ρ (es.set i e) (es'.set i e')
  | _, _, .nil, _, _, _, _ => .nil
  | _, _, .cons _ _ _ _ _h t, _, _, k, 0 => .cons _ _ _ _ k t
  | _, _, .cons _ _ _ _ h t, _, _, k, i + 1 => .cons _ _ _ _ h (ERel.set t k i)
theorem ERel.take : ∀ {es es' : List MapEntry}, ERel ρ es es' → ∀ i, ERel ρ (es.take i) (es'.take i)
  | _, _, .nil, _ => by simp; exact .nil
  | _, _, .cons _ _ _ _ h t, 0 => .nil
  | _, _, .cons _ _ _ _ h t, i + 1 => .cons _ _ _ _ h (ERel.take t i)
theorem ERel.drop : ∀ {es es' : List MapEntry}, ERel ρ es es' → ∀ i, ERel ρ (es.drop i) (es'.drop i)
  | _, _, .nil, _ => by simp; exact .nil
  | _, _, .cons _ _ _ _ h t, 0 => .cons _ _ _ _ h t
  | _, _, .cons _ _ _ _ h t, i + 1 => by simpa using ERel.drop t i
theorem ERel.erase {es es' : List MapEntry} (h : ERel ρ es es') (i : Nat) : ERel ρ (es.eraseIdx i) (es'.eraseIdx i) := by
  rw [List.eraseIdx_eq_take_drop_succ, List.eraseIdx_eq_take_drop_succ]
  exact (h.take i).append (h.drop (i + 1))

/-- What a search finds. -/
theorem findE_ok {kt : TypeId} {em : Bool} {k k' : Value} {es es' : List MapEntry} {r : Option Nat} (h : findE P kt em k es = some r) (hk : VRel ρ k k') (he : ERel ρ es es') (w : World) :
    k' = k ∧ (es.all fun e => flat e.key) = true ∧ (Instr.checkKey em 10000 kt k').run P w = .ok () w ∧ ∃ r', (Instr.findKey kt k' es').run P w = .ok r' w ∧
      (match r with | none => r' = none | some i => ∃ e', es'[i]? = some e' ∧ r' = some (i, e'.val)) := by
  unfold findE at h
  cases hf : (flat k && es.all fun e => flat e.key) with
  | false => rw [hf] at h; cases h
  | true =>
    rw [hf] at h
    simp only [cond_true] at h
    simp only [Bool.and_eq_true] at hf
    have e1 := flat_eq hk hf.1
    subst e1
    cases hr : flatRun P (do Instr.checkKey em 10000 kt k'; Instr.findKey kt k' (es.map plainE)) with
    | none => rw [hr] at h; cases h
    | some q =>
      obtain ⟨_, h1, h2⟩ := flatRun_bind _ hr
      obtain ⟨r', h3, h4⟩ := findKey_keys kt k' (erel_keys he hf.2) h2 w
      refine ⟨rfl, hf.2, flat_run _ h1 w, r', h3, ?_⟩
      rw [hr] at h
      cases q with
      | none => injection h with h; subst h; exact h4
      | some p =>
        obtain ⟨j, v⟩ := p
        injection h with h
        subst h
        obtain ⟨_, e2, h5, h6⟩ := h4
        exact ⟨e2, by simpa using h5, h6⟩

/-- The same search, for keys that are texts. -/
theorem findS_ok {k k' : Value} (hk : VRel ρ k k') : ∀ {es es' : List MapEntry}, ERel ρ es es' → ∀ (i : Nat) {r : Option Nat}, findS k es i = some r →
    ∃ r', Instr.findNow .string k' es' i = some r' ∧ (match r with | none => r' = none | some j => i ≤ j ∧ ∃ e', es'[j - i]? = some e' ∧ r' = some (j, e'.val))
  | _, _, .nil, i, r, h => by
    have h : some none = some r := h
    injection h with h
    subst h
    exact ⟨none, rfl, rfl⟩
  | _, _, .cons e e' l l' he t, i, r, h => by
    have h : (match keyEq k e.key with | some true => some (some i) | some false => findS k l (Nat.succ i) | none => none) = some r := h
    split at h
    · rename_i hq
      obtain ⟨x, y, rfl, hy, hxy⟩ := keyEq_ok hq hk he.1
      injection h with h
      subst h
      refine ⟨some (i, e'.val), ?_, Nat.le_refl _, e', by simp, rfl⟩
      unfold Instr.findNow
      rw [hy]
      show (match (some (x == y) : Option Bool) with | some true => some (some (i, e'.val)) | some false => Instr.findNow .string _ l' (i + 1) | none => none) = _
      rw [← hxy]
    · rename_i hq
      obtain ⟨x, y, rfl, hy, hxy⟩ := keyEq_ok hq hk he.1
      obtain ⟨r', h1, h2⟩ := findS_ok hk t (i + 1) h
      refine ⟨r', ?_, ?_⟩
      · unfold Instr.findNow
        rw [hy]
        show (match (some (x == y) : Option Bool) with | some true => some (some (i, e'.val)) | some false => Instr.findNow .string _ l' (i + 1) | none => none) = _
        rw [← hxy]
        exact h1
      · cases r with
        | none => exact h2
        | some j =>
          obtain ⟨h3, e2, h4, h5⟩ := h2
          exact ⟨by omega, e2, by rw [show j - i = (j - (i + 1)) + 1 by omega, List.getElem?_cons_succ]; exact h4, h5⟩
    · cases h
theorem findX_ok {kt : TypeId} {em : Bool} {k k' : Value} {es es' : List MapEntry} {r : Option Nat} (h : findX P kt em k es = some r) (hk : VRel ρ k k') (he : ERel ρ es es') (w : World) :
    (Instr.checkKey em 10000 kt k').run P w = .ok () w ∧ ∃ r', (Instr.findKey kt k' es').run P w = .ok r' w ∧
      (match r with | none => r' = none | some i => ∃ e', es'[i]? = some e' ∧ r' = some (i, e'.val)) := by
  unfold findX at h
  split at h
  · rename_i q hq
    injection h with h
    subst h
    obtain ⟨_, _, h1, r', h2, h3⟩ := findE_ok hq hk he w
    refine ⟨h1, r', h2, ?_⟩
    cases q with
    | none => exact h3
    | some j => exact h3
  · split at h
    · rename_i hu
      obtain ⟨r', h1, h2⟩ := findS_ok hk he 0 h
      refine ⟨?_, r', ?_, ?_⟩
      · unfold Instr.checkKey
        simp only [Sem.run_bind, xu hu, Result.andThen_ok]
        cases k' <;> rfl
      · unfold Instr.findKey
        simp only [Sem.run_bind, xu hu, Result.andThen_ok, h1]
        rfl
      · cases r with
        | none => exact h2
        | some j => exact h2.2
    · cases h

theorem mapOf_ok {r : Nat} {m : Array MapEntry × Nat} {l : Loc} (h : mapOf r s = some m) (hl : ρ r = some l) (hw : WRel P b ρ s w) : s.heap.get r = some (.obj (.map m.1 m.2)) ∧ ∃ es', w.heap[l.blk]? = some (.map ⟨es'⟩ m.2) ∧ ERel ρ m.1.toList es' := by
  unfold mapOf at h
  cases hg : s.heap.get r with
  | none => rw [hg] at h; cases h
  | some o =>
    rw [hg] at h
    cases o <;> first | (cases h; done) | skip
    rename_i o
    cases o <;> first | (cases h; done) | skip
    injection h with h
    subst h
    obtain ⟨o', h1, _, es', rfl, h2⟩ := hw.heap _ _ _ hg (by simp) hl
    exact ⟨rfl, es', h1, h2⟩
theorem run_getMap {r : Nat} {es : Array MapEntry} {c : Nat} (h : w.heap[r]? = some (.map es c)) : (getObj r).run P w = .ok (.map es c) w := by
  simp [getObj, Sem.run, h]
theorem run_setMap {r : Nat} {es : Array MapEntry} {c : Nat} (h : w.heap[r]? = some (.map es c)) (o : Obj) : (setObj r o).run P w = .ok () (setBlk w r o) := by
  simp [setObj, Sem.run, h, setBlk]

theorem doLookup_ok {t : TypeId} {x x' k k' v : Value} {ok : Bool} {s' : St} (h : doLookup P t x k ok s = .ok v s') (hx : VRel ρ x x') (hk : VRel ρ k k') (hw : WRel P b ρ s w) : s' = s ∧ QOk P ρ w v (Instr.lookup t x' k' ok) := by
  have pair : ∀ {u u' : Value} (c : Bool), VRel ρ u u' → VRel ρ (.tuple #[u, .bool c]) (.tuple #[u', .bool c]) := fun c h => .tuple _ _ (.cons _ _ _ _ h (.cons _ _ _ _ (.bool c) .nil))
  unfold doLookup at h
  cases hu : P.underlying t with
  | none => rw [hu] at h; cases h
  | some d =>
    rw [hu] at h
    cases d <;> first | (cases h; done) | skip
    rename_i kt vt
    -- what lies in the map
    have key : ∀ {es es' : List MapEntry} {i : Option Nat}, findX P kt es.isEmpty k es = some i → ERel ρ es es' →
        (match i with
          | none => ofO (zeroT P vt) 174 fun z => Rs.ok (bif ok then Value.tuple #[z, .bool false] else z) s
          | some i => ofO (nth es i) 175 fun e => Rs.ok (bif ok then Value.tuple #[e.val, .bool true] else e.val) s) = Rs.ok v s' →
        s' = s ∧ True ∧ ∃ r' v', (Instr.checkKey es'.isEmpty 10000 kt k').run P w = .ok () w ∧ (Instr.findKey kt k' es').run P w = .ok r' w ∧ VRel ρ v v' ∧
          ((r' = none ∧ ∃ z, (zeroValue vt).run P w = .ok z w ∧ v' = if ok then .tuple #[z, .bool false] else z) ∨ ∃ j u, r' = some (j, u) ∧ v' = if ok then .tuple #[u, .bool true] else u) := by
      intro es es' i hf he h
      obtain ⟨h1, r', h2, h3⟩ := findX_ok hf hk he w
      have hem : es'.isEmpty = es.isEmpty := by
        cases he <;> rfl
      rw [hem]
      cases i with
      | none =>
        dsimp only at h h3
        obtain ⟨z, hz, h⟩ := ofO_ok h
        injection h with e1 e2
        subst e1; subst e2
        obtain ⟨hzv, hzf⟩ := xz hz w
        subst h3
        cases ok
        · exact ⟨rfl, trivial, _, _, h1, h2, flat_refl ρ hzf, .inl ⟨rfl, z, hzv, by simp⟩⟩
        · exact ⟨rfl, trivial, _, _, h1, h2, pair _ (flat_refl ρ hzf), .inl ⟨rfl, z, hzv, by simp⟩⟩
      | some i =>
        dsimp only at h h3
        obtain ⟨e, he2, h⟩ := ofO_ok h
        injection h with e1 e2
        subst e1; subst e2
        rw [nth_eq] at he2
        obtain ⟨e', h4, rfl⟩ := h3
        obtain ⟨e'', h5, h6⟩ := he.get he2
        rw [h4] at h5
        injection h5 with h5
        subst h5
        cases ok
        · exact ⟨rfl, trivial, _, _, h1, h2, h6.2.1, .inr ⟨i, e'.val, rfl, by simp⟩⟩
        · exact ⟨rfl, trivial, _, _, h1, h2, pair _ h6.2.1, .inr ⟨i, e'.val, rfl, by simp⟩⟩
    cases hx <;> first | (cases h; done) | skip
    case mapN =>
      dsimp only at h
      obtain ⟨e, he, h⟩ := ofO_ok h
      injection he with he
      subst he
      obtain ⟨i, hi, h⟩ := ofO_ok h
      obtain ⟨h1, _, r', v', h2, h3, h4, h5⟩ := key (es := []) (es' := []) hi .nil h
      refine ⟨h1, v', h4, ?_⟩
      have h2' : (Instr.checkKey true 10000 kt k').run P w = .ok () w := h2
      rcases h5 with ⟨rfl, z, hz, rfl⟩ | ⟨j, u, rfl, rfl⟩
      · cases ok <;> simp [Instr.lookup, xu hu, h2', h3, hz]
      · cases ok <;> simp [Instr.lookup, xu hu, h2', h3]
    case map r l hr =>
      dsimp only at h
      obtain ⟨e, he, h⟩ := ofO_ok h
      obtain ⟨i, hi, h⟩ := ofO_ok h
      obtain ⟨h4, es', h5, h6⟩ := mapOf_ok he hr hw
      have hie : e.1.isEmpty = e.1.toList.isEmpty := by cases e; simp
      rw [hie] at hi
      obtain ⟨h1, _, r', v', h2, h3, h7, h8⟩ := key hi h6 h
      refine ⟨h1, v', h7, ?_⟩
      have hem : (⟨es'⟩ : Array MapEntry).isEmpty = es'.isEmpty := by cases es' <;> rfl
      have h2' : (Instr.checkKey (⟨es'⟩ : Array MapEntry).isEmpty 10000 kt k').run P w = .ok () w := by rw [hem]; exact h2
      have hg := run_getMap (P := P) h5
      clear hi h h6 he
      rcases h8 with ⟨rfl, z, hz, rfl⟩ | ⟨j, u, rfl, rfl⟩
      · cases ok <;> simp [Instr.lookup, xu hu, hg, h3, h2, hz]
      · cases ok <;> simp [Instr.lookup, xu hu, hg, h3, h2]
end
end Go.Proofs.YtkcgggobcnlnpaaGreatDoor.X

namespace Go.Proofs.YtkcgggobcnlnpaaGreatDoor.X
open Go.RowKit

section
variable {P : Program} {b : Base} {ρ : Ren} {s : St} {w : World}

theorem ERel.isEmpty : ∀ {es es' : List MapEntry}, ERel ρ es es' → es'.isEmpty = es.isEmpty
  | _, _, .nil => rfl
  | _, _, .cons _ _ _ _ _ _ => rfl
/-- A new object. -/
theorem newObj_ok (hw : WRel P b ρ s w) {o o' : Obj} (ho : ∀ ρ' : Ren, ρ.Le ρ' → OORel ρ' o o') :
    Ok P b ρ s (ρ.upd s.next ⟨w.heap.size, 0, 0⟩) (newObjA o s) (w.alloc o') ∧ (newObj o').run P w = .ok w.heap.size (w.alloc o') ∧ (ρ.upd s.next ⟨w.heap.size, 0, 0⟩) s.next = some ⟨w.heap.size, 0, 0⟩ :=
  ⟨hw.new 0 fun ρ' hle _ => ⟨rfl, ho ρ' hle⟩, rfl, upd_self _ _ _⟩
theorem doMakeMap_ok {t : TypeId} {r r' : Option Value} {v : Value} {s' : St} (h : doMakeMap P t r s = .ok v s') (hr : ORelV ρ r r') (hw : WRel P b ρ s w) : EOk P b ρ s s' w v (Instr.makeMap t r') := by
  unfold doMakeMap at h
  cases hu : P.underlying t with
  | none => rw [hu] at h; cases h
  | some d =>
    rw [hu] at h
    cases d <;> first | (cases h; done) | skip
    obtain ⟨h1, h2, h3⟩ := newObj_ok hw (o := .map #[] 0) (o' := .map ⟨[]⟩ 0) fun ρ' _ => ⟨[], rfl, .nil⟩
    cases r with
    | none =>
      injection h with e1 e2
      subst e1; subst e2
      have : r' = none := hr
      subst this
      exact ⟨_, _, _, h1, .map _ _ h3, by simp [Instr.makeMap]⟩
    | some x =>
      obtain ⟨x', rfl, hx⟩ := hr
      cases hx <;> first | (cases h; done) | skip
      injection h with e1 e2
      subst e1; subst e2
      exact ⟨_, _, _, h1, .map _ _ h3, by simp [Instr.makeMap, xu hu, asInt, asIntOf]⟩
theorem modify_set {α : Type} (l : List α) (i : Nat) (f : α → α) {x : α} (h : l[i]? = some x) : (⟨l⟩ : Array α).modify i f = ⟨l.set i (f x)⟩ := by
  apply Array.ext_getElem?
  intro j
  rw [Array.getElem?_modify]
  simp only [List.getElem?_toArray, List.getElem?_set]
  by_cases hj : i = j
  · subst hj
    obtain ⟨hl, hx⟩ := List.getElem?_eq_some_iff.1 h
    simp [hl, hx]
  · simp [hj]
theorem setObj_ok (hw : WRel P b ρ s w) {r : Nat} {l : Loc} {o o1 o1' : Obj} (hg : s.heap.get r = some (.obj o)) (hl : ρ r = some l) (hG : b.G ≤ r) (ho : OORel ρ o1 o1') : Ok P b ρ s ρ (setObjA s r o1) (setBlk w l.blk o1') :=
  hw.set hg (by simp) hl hG ⟨(let ⟨_, _, h, _⟩ := hw.heap _ _ _ hg (by simp) hl; h), ho⟩
theorem doMapUpdate_ok {t : TypeId} {x x' k k' u u' v : Value} {s' : St} (h : doMapUpdate P b.G t x k u s = .ok v s') (hx : VRel ρ x x') (hk : VRel ρ k k') (hu' : VRel ρ u u') (hw : WRel P b ρ s w) :
    v = undef ∧ ∃ w', Ok P b ρ s ρ s' w' ∧ (Instr.mapUpdate t x' k' u').run P w = .ok () w' := by
  unfold doMapUpdate at h
  cases hu : P.underlying t with
  | none => rw [hu] at h; cases h
  | some d =>
    rw [hu] at h
    cases d <;> first | (cases h; done) | skip
    cases hx <;> first | (cases h; done) | skip
    rename_i kt vt r l hr
    dsimp only at h
    cases hG : Nat.ble b.G r with
    | false => rw [hG] at h; cases h
    | true =>
      rw [hG] at h
      simp only [Bool.not_true, cond_false] at h
      have hG := Nat.le_of_ble_eq_true hG
      obtain ⟨e, he, h⟩ := ofO_ok h
      obtain ⟨i, hi, h⟩ := ofO_ok h
      obtain ⟨h4, es', h5, h6⟩ := mapOf_ok he hr hw
      obtain ⟨h1, r', h2, h3⟩ := findX_ok hi hk h6 w
      have hgm := run_getMap (P := P) h5
      cases i with
      | none =>
        dsimp only at h h3
        subst h3
        injection h with e1 e2
        subst e1; subst e2
        rw [appL_eq]
        refine ⟨rfl, _, setObj_ok hw h4 hr hG (o1' := .map ⟨es' ++ [{ key := k', val := u', born := e.2 }]⟩ (Nat.succ e.2)) ⟨_, rfl, h6.append (.cons _ _ _ _ ⟨hk, hu', rfl⟩ .nil)⟩, ?_⟩
        have := run_setMap (P := P) h5 (.map ⟨es' ++ [{ key := k', val := u', born := e.2 }]⟩ (Nat.succ e.2))
        simp [Instr.mapUpdate, xu hu, hgm, h1, h2]
        simpa using this
      | some j =>
        dsimp only at h h3
        obtain ⟨y, hy, h⟩ := ofO_ok h
        obtain ⟨hsb, h⟩ := bif_ok h
        simp only [Bool.and_eq_true] at hsb
        obtain ⟨⟨hfk, hfy⟩, hsb⟩ := hsb
        have ek := flat_eq hk hfk
        subst ek
        injection h with e1 e2
        subst e1; subst e2
        rw [nth_eq] at hy
        obtain ⟨e', h7, rfl⟩ := h3
        obtain ⟨e'', h8, h9⟩ := h6.get hy
        rw [h7] at h8
        injection h8 with h8
        subst h8
        have hkey : e'.key = y.key := by
          exact flat_eq h9.1 hfy
        rw [setL_eq]
        have hmod := modify_set es' j (fun e => { e with key := k', val := u' }) h7
        refine ⟨rfl, _, setObj_ok hw h4 hr hG (o1' := .map ⟨es'.set j { e' with key := k', val := u' }⟩ e.2) ⟨_, rfl, h6.set (e := { key := k', val := u, born := y.born }) (e' := { e' with key := k', val := u' }) ⟨hk, hu', h9.2.2⟩ j⟩, ?_⟩
        have := run_setMap (P := P) h5 (.map ⟨es'.set j { e' with key := k', val := u' }⟩ e.2)
        have hst : (Instr.keyThatStays ((((⟨es'⟩ : Array MapEntry)[j]?).map (·.key)).getD k') k').run P w = .ok k' w := by
          have e0 : (((⟨es'⟩ : Array MapEntry)[j]?).map (·.key)).getD k' = y.key := by simp [h7, hkey]
          rw [e0]
          unfold Instr.keyThatStays
          rw [if_pos hsb]
          rfl
        simp only [Instr.mapUpdate, Sem.run_bind, xu hu, Result.andThen_ok, hgm, h1, h2, hst, hmod]
        exact this
theorem doDelete_ok {ts : Array TypeId} {ty : TypeId} {args args' : List Value} {v : Value} {s' : St} (h : doDelete P b.G ts.toList args s = .ok v s') (ha : LRel ρ args args') (hw : WRel P b ρ s w) :
    EOk P b ρ s s' w v (Builtin.delete_ ts ty ⟨args'⟩) := by
  have vt : VRel ρ (.tuple #[]) (.tuple #[]) := .tuple _ _ .nil
  obtain ⟨ts⟩ := ts
  unfold doDelete at h
  rcases ts with _ | ⟨t, r⟩ <;> first | (cases h; done) | skip
  cases ha with
  | nil => cases h
  | cons x0 x0' l l' hx0 hl =>
    cases hl with
    | nil => cases x0 <;> first | (cases h; done) | (rename_i m; cases m <;> cases h)
    | cons x x' l2 l2' hx hl2 =>
      cases hl2 with
      | cons _ _ _ _ _ _ => cases x0 <;> first | (cases h; done) | (rename_i m; cases m <;> cases h)
      | nil =>
        cases hx0 <;> first | (cases h; done) | skip
        rename_i r l hr
        dsimp only at h
        cases hu : P.underlying t with
        | none => rw [hu] at h; cases h
        | some d =>
          rw [hu] at h
          cases d <;> first | (cases h; done) | skip
          rename_i kt vt'
          dsimp only at h
          cases hG : Nat.ble b.G r with
          | false => rw [hG] at h; cases h
          | true =>
            rw [hG] at h
            simp only [Bool.not_true, cond_false] at h
            have hG := Nat.le_of_ble_eq_true hG
            obtain ⟨e, he, h⟩ := ofO_ok h
            obtain ⟨i, hi, h⟩ := ofO_ok h
            obtain ⟨h4, es', h5, h6⟩ := mapOf_ok he hr hw
            have hie : e.1.isEmpty = e.1.toList.isEmpty := by cases e; simp
            rw [hie] at hi
            obtain ⟨h1, r', h2, h3⟩ := findX_ok hi hx h6 w
            have hem : (⟨es'⟩ : Array MapEntry).isEmpty = e.1.toList.isEmpty := by
              have : (⟨es'⟩ : Array MapEntry).isEmpty = es'.isEmpty := by cases es' <;> rfl
              rw [this]; exact h6.isEmpty
            rw [← hem] at h1
            have hgm := run_getMap (P := P) h5
            cases i with
            | none =>
              dsimp only at h h3
              subst h3
              injection h with e1 e2
              subst e1; subst e2
              have := run_setMap (P := P) h5 (.map ⟨es'⟩ e.2)
              rw [setBlk_self h5] at this
              refine ⟨ρ, w, _, .refl hw, vt, ?_⟩
              have hem2 : es'.isEmpty = (⟨es'⟩ : Array MapEntry).isEmpty := by cases es' <;> rfl
              simp only [Builtin.delete_, Sem.run_bind, List.getElem?_toArray, List.getElem?_cons_zero, List.getElem?_cons_succ, xu hu, Result.andThen_ok, hgm, h1, h2, this, Sem.run_pure]
            | some j =>
              dsimp only at h h3
              injection h with e1 e2
              subst e1; subst e2
              obtain ⟨e', h7, rfl⟩ := h3
              have hjl := (List.getElem?_eq_some_iff.1 h7).1
              have her : (⟨es'⟩ : Array MapEntry).eraseIdxIfInBounds j = ⟨es'.eraseIdx j⟩ := by
                apply Array.ext'
                simp [Array.eraseIdxIfInBounds, hjl]
              have hset := setObj_ok hw h4 hr hG (o1 := .map ⟨e.1.toList.eraseIdx j⟩ e.2) (o1' := .map ⟨es'.eraseIdx j⟩ e.2) ⟨_, rfl, h6.erase j⟩
              have := run_setMap (P := P) h5 (.map ⟨es'.eraseIdx j⟩ e.2)
              rw [appL_eq, takeL_eq, dropL_eq, ← List.eraseIdx_eq_take_drop_succ]
              refine ⟨ρ, _, _, hset, vt, ?_⟩
              simp only [Builtin.delete_, Sem.run_bind, List.getElem?_toArray, List.getElem?_cons_zero, List.getElem?_cons_succ, xu hu, Result.andThen_ok, hgm, h1, h2, her, this, Sem.run_pure]
end
end Go.Proofs.YtkcgggobcnlnpaaGreatDoor.X

namespace Go.Proofs.YtkcgggobcnlnpaaGreatDoor.X
open Go.RowKit

section
variable {P : Program} {b : Base} {ρ : Ren} {s : St} {w : World}

theorem ptr_obj {ρ' : Ren} {id g : Nat} (h : ρ' id = some ⟨g, 0, 0⟩) : VRel ρ' (.pointer (some ⟨id, 0, none⟩)) (.pointer (some ⟨g, 0, none⟩)) :=
  .ptr _ _ ⟨rfl, _, h, by simp⟩
theorem doRangeOp_ok {t : TypeId} {x x' v : Value} {s' : St} (h : doRangeOp P t x s = .ok v s') (hx : VRel ρ x x') (hw : WRel P b ρ s w) : EOk P b ρ s s' w v (Instr.range t x') := by
  unfold doRangeOp at h
  cases hu : P.underlying t with
  | none => rw [hu] at h; cases h
  | some d =>
    rw [hu] at h
    cases d <;> first | (cases h; done) | skip
    case string =>
      cases hx <;> first | (cases h; done) | skip
      rename_i bs
      injection h with e1 e2
      subst e1; subst e2
      obtain ⟨h1, h2, h3⟩ := newObj_ok hw (o := .stringIter bs 0) (o' := .stringIter bs 0) fun ρ' _ => rfl
      exact ⟨_, _, _, h1, ptr_obj h3, by simp [Instr.range, xu hu]⟩
    case map kt vt =>
      cases hx <;> first | (cases h; done) | skip
      case mapN =>
        injection h with e1 e2
        subst e1; subst e2
        obtain ⟨h1, h2, h3⟩ := newObj_ok hw (o := .mapIter none 0 #[] 0) (o' := .mapIter none 0 #[] 0) fun ρ' _ => ⟨none, rfl, rfl⟩
        exact ⟨_, _, _, h1, ptr_obj h3, by simp [Instr.range, xu hu]⟩
      case map r l hr =>
        dsimp only at h
        obtain ⟨e, he, h⟩ := ofO_ok h
        injection h with e1 e2
        subst e1; subst e2
        obtain ⟨h4, es', h5, h6⟩ := mapOf_ok he hr hw
        obtain ⟨h1, h2, h3⟩ := newObj_ok hw (o := .mapIter (some r) e.2 #[] e.2) (o' := .mapIter (some l.blk) e.2 #[] e.2) fun ρ' hle => ⟨_, ⟨l, hle _ _ hr, rfl⟩, rfl⟩
        exact ⟨_, _, _, h1, ptr_obj h3, by simp [Instr.range, xu hu, run_getMap h5]⟩

theorem objOf_ok {r : Nat} {o : Obj} (h : objOf r s = some o) : s.heap.get r = some (.obj o) := by
  unfold objOf at h
  cases hg : s.heap.get r with
  | none => rw [hg] at h; cases h
  | some x =>
    rw [hg] at h
    cases x <;> first | (cases h; done) | skip
    injection h with h
    subst h
    rfl
def bornP (p : Nat → Bool) (e : MapEntry) : Bool := p e.born
theorem ERel.filter (p : Nat → Bool) : ∀ {es es' : List MapEntry}, ERel ρ es es' → ERel ρ (es.filter (bornP p)) (es'.filter (bornP p))
  | _, _, .nil => .nil
  | _, _, .cons e e' l l' h t => by
    have hb : bornP p e' = bornP p e := by unfold bornP; rw [h.2.2]
    cases hp : bornP p e with
    | true =>
      rw [List.filter_cons_of_pos hp, List.filter_cons_of_pos (hb.trans hp)]
      exact .cons _ _ _ _ h (ERel.filter p t)
    | false =>
      rw [List.filter_cons_of_neg (by rw [hp]; simp), List.filter_cons_of_neg (by rw [hb, hp]; simp)]
      exact ERel.filter p t
theorem ERel.all (p : Nat → Bool) : ∀ {es es' : List MapEntry}, ERel ρ es es' → es'.all (bornP p) = es.all (bornP p)
  | _, _, .nil => rfl
  | _, _, .cons e e' l l' h t => by
    have hb : bornP p e' = bornP p e := by unfold bornP; rw [h.2.2]
    simp only [List.all_cons, hb, ERel.all p t]
theorem run_next_map {r m since last : Nat} {seen : Array Nat} {es' : List MapEntry} {clk : Nat} {ty : TypeId} (hr : w.heap[r]? = some (.mapIter (some m) since seen last)) (hm : w.heap[m]? = some (.map ⟨es'⟩ clk))
    (hnb : (!seen.isEmpty && !(⟨es'⟩ : Array MapEntry).isEmpty && es'.all (bornP fun n => decide (n ≥ last))) = false) {old new : List MapEntry}
    (ho : ((es'.filter (bornP fun n => !seen.contains n)).filter (bornP fun n => decide (n < since))) = old) (hn : ((es'.filter (bornP fun n => !seen.contains n)).filter (bornP fun n => decide (n ≥ since))) = new) :
    (old = [] → new = [] → (Instr.next (.pointer (some ⟨r, 0, none⟩)) false ty).run P w = .ok (.tuple #[.bool false]) w) ∧
    (∀ x, old = [x] → new = [] → (Instr.next (.pointer (some ⟨r, 0, none⟩)) false ty).run P w = .ok (.tuple #[.bool true, x.key, x.val]) (setBlk w r (.mapIter (some m) since (seen.push x.born) clk))) := by
  have hgo : (getObj r).run P w = .ok (.mapIter (some m) since seen last) w := by simp [getObj, Sem.run, hr]
  have hgm := run_getMap (P := P) hm
  have hso : ∀ o, (setObj r o).run P w = .ok () (setBlk w r o) := fun o => by simp [setObj, Sem.run, hr, setBlk]
  have hall : (⟨es'⟩ : Array MapEntry).all (fun x => decide (x.born ≥ last)) = es'.all (bornP fun n => decide (n ≥ last)) := by simp; rfl
  have hnb' : (!seen.isEmpty && !(⟨es'⟩ : Array MapEntry).isEmpty && (⟨es'⟩ : Array MapEntry).all (fun x => decide (x.born ≥ last))) = false := by rw [hall]; exact hnb
  have hold : ((⟨es'⟩ : Array MapEntry).filter fun e => !seen.contains e.born).filter (fun x => decide (x.born < since)) = ⟨old⟩ := by
    apply Array.ext'
    rw [← ho]
    simp [bornP]
  have hnew : ((⟨es'⟩ : Array MapEntry).filter fun e => !seen.contains e.born).filter (fun x => decide (x.born ≥ since)) = ⟨new⟩ := by
    apply Array.ext'
    rw [← hn]
    simp [bornP]
  refine ⟨fun h1 h2 => ?_, fun x h1 h2 => ?_⟩
  all_goals
    subst h1; subst h2
    unfold Instr.next
    simp only [Sem.run_bind, hgo, Result.andThen_ok, hgm]
    rw [if_neg (by rw [hnb']; simp)]
    simp only [hold, hnew, Sem.run_bind]
    simp [choose, Sem.run, Question.forced, hso]

theorem doNextOp_ok {it it' v : Value} {st : Bool} {ty : TypeId} {s' : St} (h : doNextOp b.G it st s = .ok v s') (hx : VRel ρ it it') (hw : WRel P b ρ s w) : EOk P b ρ s s' w v (Instr.next it' st ty) := by
  have tup : ∀ {ρ : Ren} {l l' : List Value}, LRel ρ l l' → VRel ρ (.tuple ⟨l⟩) (.tuple ⟨l'⟩) := fun h => .tuple _ _ h
  have over : VRel ρ (.tuple #[.bool false]) (.tuple #[.bool false]) := tup (.cons _ _ _ _ (.bool false) .nil)
  unfold doNextOp at h
  split at h
  · rename_i r
    cases hx with
    | ptr _ a' ha =>
      obtain ⟨_, l, hl, rfl⟩ := ha
      dsimp only at hl ⊢
      cases hG : Nat.ble b.G r with
      | false => rw [hG] at h; cases h
      | true =>
        rw [hG] at h
        simp only [Bool.not_true, cond_false] at h
        have hG := Nat.le_of_ble_eq_true hG
        obtain ⟨o, ho, h⟩ := ofO_ok h
        have hg := objOf_ok ho
        obtain ⟨o', h1, h2⟩ := hw.heap _ _ _ hg (by simp) hl
        obtain ⟨hsh, h2⟩ := h2
        rw [hsh]
        have hgo : ∀ {o2}, w.heap[l.blk]? = some o2 → (∀ c e f, o2 ≠ .cells c e f) → (getObj l.blk).run P w = .ok o2 w := fun {o2} h hc => by
          cases o2 <;> first | exact absurd rfl (hc _ _ _) | simp [getObj, Sem.run, h]
        have hso : ∀ {o2} (x : Obj), w.heap[l.blk]? = some o2 → (∀ c e f, o2 ≠ .cells c e f) → (setObj l.blk x).run P w = .ok () (setBlk w l.blk x) := fun {o2} x h hc => by
          cases o2 <;> first | exact absurd rfl (hc _ _ _) | simp [setObj, Sem.run, h, setBlk]
        cases o <;> first | (cases st <;> cases h; done) | skip
        case stringIter bs pos =>
          cases st with
          | false => cases h
          | true =>
            have h2 : o' = .stringIter bs pos := h2
            subst h2
            have g1 := hgo h1 (by simp)
            dsimp only at h
            cases hp : Nat.blt pos bs.size with
            | true =>
              rw [hp] at h
              simp only [cond_true] at h
              injection h with e1 e2
              subst e1; subst e2
              have hp : pos < bs.size := Nat.le_of_ble_eq_true hp
              have hset := setObj_ok hw hg hl hG (o1 := .stringIter bs (pos + (Utf8.decode bs pos).2)) (o1' := .stringIter bs (pos + (Utf8.decode bs pos).2)) rfl
              have g2 := hso (.stringIter bs (pos + (Utf8.decode bs pos).2)) h1 (by simp)
              refine ⟨ρ, _, _, hset, tup (.cons _ _ _ _ (.bool true) (.cons _ _ _ _ (.int .i64 pos) (.cons _ _ _ _ (.int .i32 (Utf8.decode bs pos).1) .nil))), ?_⟩
              simp [Instr.next, g1, hp, g2, goInt]
            | false =>
              rw [hp] at h
              simp only [cond_false] at h
              injection h with e1 e2
              subst e1; subst e2
              have hp : ¬ pos < bs.size := fun h => by rw [show Nat.blt pos bs.size = true from Nat.ble_eq_true_of_le h] at hp; cases hp
              exact ⟨ρ, w, _, .refl hw, over, by simp [Instr.next, g1, hp]⟩
        case mapIter m since seen last =>
          cases st with
          | true => cases m <;> cases h
          | false =>
            obtain ⟨m', hm, rfl⟩ := h2
            have g1 := hgo h1 (by simp)
            cases m with
            | none =>
              have hm : m' = none := hm
              subst hm
              dsimp only at h
              injection h with e1 e2
              subst e1; subst e2
              exact ⟨ρ, w, _, .refl hw, over, by simp [Instr.next, g1]⟩
            | some m =>
              obtain ⟨k, hk, rfl⟩ := hm
              dsimp only at h
              obtain ⟨e, he, h⟩ := ofO_ok h
              obtain ⟨h4, es', h5, h6⟩ := mapOf_ok he hk hw
              cases hnb : (!seen.isEmpty && !e.1.toList.isEmpty && e.1.toList.all (fun x => decide (x.born ≥ last))) with
              | true => rw [hnb] at h; cases h
              | false =>
                rw [hnb] at h
                simp only [cond_false] at h
                have hnb' : (!seen.isEmpty && !(⟨es'⟩ : Array MapEntry).isEmpty && es'.all (bornP fun n => decide (n ≥ last))) = false := by
                  have e1 : (⟨es'⟩ : Array MapEntry).isEmpty = e.1.toList.isEmpty := by
                    have : (⟨es'⟩ : Array MapEntry).isEmpty = es'.isEmpty := by cases es' <;> rfl
                    rw [this]; exact h6.isEmpty
                  rw [e1, h6.all (fun n => decide (n ≥ last))]
                  exact hnb
                have fo := (h6.filter fun n => !seen.contains n).filter fun n => decide (n < since)
                have fn := (h6.filter fun n => !seen.contains n).filter fun n => decide (n ≥ since)
                obtain ⟨r1, r2⟩ := run_next_map (P := P) (ty := ty) h1 h5 hnb' rfl rfl
                have eo : (e.1.toList.filter (bornP fun n => !seen.contains n)).filter (bornP fun n => decide (n < since)) = (e.1.toList.filter fun x => !seen.contains x.born).filter fun x => decide (x.born < since) := rfl
                have en : (e.1.toList.filter (bornP fun n => !seen.contains n)).filter (bornP fun n => decide (n ≥ since)) = (e.1.toList.filter fun x => !seen.contains x.born).filter fun x => decide (x.born ≥ since) := rfl
                rw [eo] at fo
                rw [en] at fn
                generalize (e.1.toList.filter fun x => !seen.contains x.born).filter (fun x => decide (x.born < since)) = old at fo h
                generalize (e.1.toList.filter fun x => !seen.contains x.born).filter (fun x => decide (x.born ≥ since)) = new at fn h
                generalize (es'.filter (bornP fun n => !seen.contains n)).filter (bornP fun n => decide (n < since)) = old' at fo r1 r2
                generalize (es'.filter (bornP fun n => !seen.contains n)).filter (bornP fun n => decide (n ≥ since)) = new' at fn r1 r2
                cases fn with
                | cons _ _ _ _ _ _ => cases fo with
                  | nil => cases h
                  | cons _ _ _ _ _ t => cases t <;> cases h
                | nil =>
                  cases fo with
                  | nil =>
                    injection h with e1 e2
                    subst e1; subst e2
                    exact ⟨ρ, w, _, .refl hw, over, r1 rfl rfl⟩
                  | cons x x' _ _ hxx t =>
                    cases t with
                    | cons _ _ _ _ _ _ => cases h
                    | nil =>
                      injection h with e1 e2
                      subst e1; subst e2
                      have hrun := r2 x' rfl rfl
                      have hset := setObj_ok hw hg hl hG (o1 := .mapIter (some m) since (seen.push x.born) e.2) (o1' := .mapIter (some k.blk) since (seen.push x'.born) e.2) ⟨_, ⟨k, hk, rfl⟩, by rw [hxx.2.2]⟩
                      exact ⟨ρ, _, _, hset, tup (.cons _ _ _ _ (.bool true) (.cons _ _ _ _ hxx.1 (.cons _ _ _ _ hxx.2.1 .nil))), hrun⟩
  · cases h
theorem doEntry_ok {it it' v : Value} {s' : St} (h : doEntry it s = .ok v s') (hx : VRel ρ it it') (hw : WRel P b ρ s w) : EOk P b ρ s s' w v (Instr.entry it') := by
  unfold doEntry at h
  split at h
  · rename_i r
    cases hx with
    | ptr _ a' ha =>
      obtain ⟨_, l, hl, rfl⟩ := ha
      dsimp only at hl ⊢
      obtain ⟨o, ho, h⟩ := ofO_ok h
      have hg := objOf_ok ho
      obtain ⟨o', h1, hsh, h2⟩ := hw.heap _ _ _ hg (by simp) hl
      rw [hsh]
      cases o <;> first | (cases h; done) | skip
      rename_i m since seen stepped
      cases m with
      | none => cases h
      | some m =>
        obtain ⟨m', ⟨k, hk, rfl⟩, rfl⟩ := h2
        dsimp only at h
        obtain ⟨st, hst, h⟩ := ofO_ok h
        obtain ⟨e, he, h⟩ := ofO_ok h
        obtain ⟨hc, h⟩ := bif_ok h
        obtain ⟨x, hxf, h⟩ := ofO_ok h
        injection h with e1 e2
        subst e1; subst e2
        have hc := Nat.eq_of_beq_eq_true hc
        obtain ⟨h4, es', h5, h6⟩ := mapOf_ok he hk hw
        have key : ∀ {es es' : List MapEntry}, ERel ρ es es' → es.find? (·.born == st) = some x → ∃ x', es'.find? (·.born == st) = some x' ∧ VRels ρ x x' := by
          intro es es' h
          induction h with
          | nil => intro h; simp at h
          | cons e e' l l' he _ ih =>
            intro h
            rw [List.find?_cons] at h ⊢
            rw [he.2.2]
            cases hb : (e.born == st) with
            | true => rw [hb] at h; injection h with h; subst h; exact ⟨e', rfl, he⟩
            | false => rw [hb] at h; exact ih h
        obtain ⟨x', g1, g2⟩ := key h6 hxf
        refine ⟨ρ, w, _, .refl hw, .tuple _ _ (.cons _ _ _ _ g2.1 (.cons _ _ _ _ g2.2.1 .nil)), ?_⟩
        have hgo : (getObj l.blk).run P w = .ok (.mapIter (some k.blk) since seen stepped) w := by simp [getObj, Sem.run, h1]
        simp [Instr.entry, hgo, hst, run_getMap h5, hc, g1]
  · cases h
end
end Go.Proofs.YtkcgggobcnlnpaaGreatDoor.X

namespace Go.Proofs.YtkcgggobcnlnpaaGreatDoor.X
open Go.RowKit

section
variable {P : Program} {b : Base} {ρ : Ren} {s : St} {w : World}

theorem run_v {x : Sem Value} {v : Value} {w w' : World} (h : x.run P w = .ok v w') : ((do pure (Next.value (← x))) : Sem Next).run P w = .ok (.value v) w' := by
  simp [h]
theorem run_u {x : Sem Unit} {w w' : World} (h : x.run P w = .ok () w') : ((do x; pure Next.skip) : Sem Next).run P w = .ok .skip w' := by
  simp [h]
/-- The operands are alike. -/
def OpsRel (ρ : Ren) (a : Ac) (e' : Operand → Value) (o : Oper) : Prop := ∀ x ∈ o.op.operands.toList, VRel ρ (ev a x) (e' x)
def NOk (P : Program) (ρ : Ren) (w : World) (v : Value) (x : Sem Next) : Prop := ∃ v', VRel ρ v v' ∧ x.run P w = .ok (.value v') w
theorem NOk.of {v : Value} {x : Sem Value} (h : QOk P ρ w v x) : NOk P ρ w v (do pure (Next.value (← x))) := by
  obtain ⟨v', h1, h2⟩ := h
  exact ⟨v', h1, run_v h2⟩
theorem opt_rel {a : Ac} {e' : Operand → Value} {o : Option Operand} (h : ∀ x, o = some x → VRel ρ (ev a x) (e' x)) : ORelV ρ (o.map (ev a)) (o.map e') := by
  cases o with
  | none => rfl
  | some x => exact ⟨_, rfl, h x rfl⟩

/-- What needs no memory. -/
theorem quiet0_ok {ih : Ih} {a : Ac} {e' : Operand → Value} {o : Oper} {v : Value} {s' : St} (hk : opKind P o = 0) (h : oper P b.G ih a o s = .ok v s') (hx : OpsRel ρ a e' o) : s' = s ∧ NOk P ρ w v (execOp e' o) := by
  unfold OpsRel at hx
  unfold oper at h
  unfold execOp
  unfold opKind at hk
  cases ho : o.op <;> rw [ho] at h hx hk <;> simp only [Op.operands, List.mem_cons, List.not_mem_nil, or_false, forall_eq_or_imp, forall_eq] at hx <;> first | (cases hk; done) | skip
  case move x =>
    injection h with e1 e2
    subst e1; subst e2
    exact ⟨rfl, _, hx, rfl⟩
  case assign x =>
    injection h with e1 e2
    subst e1; subst e2
    exact ⟨rfl, _, hx, rfl⟩
  case pick c x y =>
    obtain ⟨h1, h2, h3⟩ := hx
    dsimp only at h
    cases hc : ev a c <;> rw [hc] at h h1 <;> first | (cases h; done) | skip
    rename_i bb
    have hc' : e' c = .bool bb := by
      generalize e' c = y at h1
      cases h1; rfl
    cases bb
    · injection h with e1 e2
      subst e1; subst e2
      exact ⟨rfl, _, h3, by simp [asBool, hc']⟩
    · injection h with e1 e2
      subst e1; subst e2
      exact ⟨rfl, _, h2, by simp [asBool, hc']⟩
  case binOp op t x y yt =>
    obtain ⟨h1, h2⟩ := hx
    obtain ⟨g1, g2⟩ := doBin_ok (w := w) h h1 h2
    exact ⟨g1, .of g2⟩
  case unOp op t x =>
    obtain ⟨g1, g2, g3⟩ := doFlat_ok (ρ := ρ) (w := w) (_a' := e' x) h
    have := flat_eq hx g2
    rw [← this] at g3
    exact ⟨g1, .of g3⟩
  case fieldAddr t x f =>
    obtain ⟨g1, g2⟩ := doFieldAddr_ok (w := w) h hx
    exact ⟨g1, .of g2⟩
  case indexAddr t x i =>
    obtain ⟨g1, g2⟩ := doIndexAddr_ok (w := w) h hx.1 hx.2
    exact ⟨g1, .of g2⟩
  case field t x f =>
    obtain ⟨g1, g2⟩ := doField_ok (w := w) h hx
    exact ⟨g1, .of g2⟩
  case index t x i =>
    obtain ⟨g1, g2⟩ := doIndex_ok (w := w) h hx.1 hx.2
    exact ⟨g1, .of g2⟩
  case extract x i =>
    dsimp only at h
    cases hv : ev a x <;> rw [hv] at h hx <;> first | (cases h; done) | skip
    rename_i vs
    obtain ⟨vs⟩ := vs
    dsimp only at h
    obtain ⟨u, hu, h⟩ := ofO_ok h
    injection h with e1 e2
    subst e1; subst e2
    exact ⟨rfl, .of (doExtract_ok rfl hu hx)⟩
  case makeInterface t x =>
    dsimp only at h
    cases hu : P.underlying t with
    | none => rw [hu] at h; cases h
    | some d =>
      rw [hu] at h
      cases d <;> first | (cases h; done) | skip
      all_goals
        injection h with e1 e2
        subst e1; subst e2
        exact ⟨rfl, .of ⟨_, .iface _ _ _ hx, by simp [Instr.makeInterface, xu hu]⟩⟩
  case makeFunc fn first cap =>
    dsimp only at h
    have hx' : ∀ x, x ∈ first.toList ∨ x ∈ cap.toList → VRel ρ (ev a x) (e' x) := fun x hm => hx x (by simpa using hm)
    have e3 : (first.map e') = ⟨first.toList.map e'⟩ := by apply Array.ext'; simp
    have e4 : (cap.map e') = ⟨cap.toList.map e'⟩ := by apply Array.ext'; simp
    have hl1 := LRel.map_ (ρ := ρ) (f := ev a) (g := e') first.toList fun x hm => hx' x (.inl hm)
    have hl2 := LRel.map_ (ρ := ρ) (f := ev a) (g := e') cap.toList fun x hm => hx' x (.inr hm)
    show s' = s ∧ NOk P ρ w v (do pure (Next.value (← Instr.makeFunc fn (first.map e') (cap.map e'))))
    rw [e3, e4]
    cases fn <;> first | (cases h; done) | skip
    all_goals
      injection h with e1 e2
      subst e1; subst e2
      exact ⟨rfl, .of ⟨_, .func _ _ _ _ _ _ rfl hl1 hl2, rfl⟩⟩
  case nilCheck x =>
    dsimp only at h ⊢
    cases hv : ev a x <;> rw [hv] at h hx <;> first | (cases h; done) | skip
    case pointer p =>
      cases p with
      | none => cases h
      | some p =>
        injection h with e1 e2
        subst e1; subst e2
        generalize e' x = y at hx ⊢
        cases hx with
        | ptr _ p' hp => exact ⟨rfl, _, .ptr _ _ hp, rfl⟩
    case func f c d =>
      generalize e' x = y at hx ⊢
      cases f <;> first | (cases h; done) | skip
      all_goals
        injection h with e1 e2
        subst e1; subst e2
        cases hx with
        | func _ f' _ _ _ _ hf hc hd =>
          cases f' <;> first | (exact ⟨rfl, _, .func _ _ _ _ _ _ hf hc hd, rfl⟩) | (first | (cases hf; done) | (obtain ⟨_, _, hf⟩ := hf; cases hf))
  case build t ps =>
    have hp : PRel ρ (ps.toList.map fun p => (p.1, ev a p.2)) (ps.toList.map fun p => (p.1, e' p.2)) := PRel.of_map _ fun p hp => hx p.2 (by have := Array.mem_toList_iff.1 hp; simp; exact ⟨p.1, this⟩)
    obtain ⟨g1, g2⟩ := doBuild_ok (w := w) h hp
    have e3 : (ps.map fun (i, x) => (i, e' x)) = ⟨ps.toList.map fun p => (p.1, e' p.2)⟩ := by apply Array.ext'; simp
    rw [← e3] at g2
    exact ⟨g1, .of g2⟩
  case typeAssert x xt t ok =>
    obtain ⟨g1, g2⟩ := doAssert_ok (w := w) (xt := xt) h hx
    exact ⟨g1, .of g2⟩
  case convert src dst x =>
    exfalso
    dsimp only at hk
    split at hk <;> cases hk
  case call c =>
    exfalso
    obtain ⟨callee, args, ts⟩ := c
    cases callee with
    | builtin bi => cases bi <;> cases hk
    | _ => cases hk
end
end Go.Proofs.YtkcgggobcnlnpaaGreatDoor.X

namespace Go.Proofs.YtkcgggobcnlnpaaGreatDoor.X
open Go.RowKit

section
variable {P : Program} {b : Base} {ρ : Ren} {s : St} {w : World}

theorem doCap_ok {ts : Array TypeId} {ty : TypeId} {args args' : List Value} {v : Value} {s' : St} (h : doCap P ts.toList args s = .ok v s') (ha : LRel ρ args args') : s' = s ∧ QOk P ρ w v (Builtin.cap_ ts ty ⟨args'⟩) := by
  unfold doCap at h
  obtain ⟨ts⟩ := ts
  cases ts with
  | nil => cases h
  | cons t r =>
    cases ha with
    | nil => cases h
    | cons x x' l l' hx hl =>
      cases hl with
      | cons _ _ _ _ _ _ => cases x <;> cases h
      | nil =>
        have hu : ∃ e, P.underlying t = some (.slice e) := by
          cases x <;> first | (cases h; done) | skip
          dsimp only at h
          cases hu : P.underlying t with
          | none => rw [hu] at h; cases h
          | some d =>
            rw [hu] at h
            cases d <;> first | (cases h; done) | exact ⟨_, rfl⟩
        obtain ⟨e, hu⟩ := hu
        cases hx <;> first | (cases h; done) | skip
        all_goals dsimp only at h
        all_goals rw [hu] at h
        · injection h with e1 e2
          subst e1; subst e2
          exact ⟨rfl, _, .int _ _, by simp [Builtin.cap_, xu hu, goInt]⟩
        · rename_i a a' n c c' ha hc
          dsimp only at h
          cases hb : (a.spot.isSome || isInf c) with
          | true => rw [hb] at h; cases h
          | false =>
            rw [hb] at h
            simp only [Bool.or_eq_false_iff] at hb
            injection h with e1 e2
            subst e1; subst e2
            have hc2 := hc.2
            rw [if_neg (by rw [hb.2]; simp)] at hc2
            subst hc2
            exact ⟨rfl, _, .int _ _, by simp [Builtin.cap_, xu hu, goInt]⟩
        · rename_i a a' c c' hsp
          dsimp only at h
          rw [hsp] at h
          cases h
theorem mmAny_ok {gr : Bool} {ts : Array TypeId} {ty : TypeId} {l l' : List Value} {v : Value} {s' : St} (h : mmAny gr l s = .ok v s') (hl : LRel ρ l l') : s' = s ∧ ∃ v', VRel ρ v v' ∧ (gr = false → (Builtin.min_ ts ty ⟨l'⟩).run P w = .ok v' w) ∧ (gr = true → (Builtin.max_ ts ty ⟨l'⟩).run P w = .ok v' w) := by
  unfold mmAny at h
  split at h
  · rename_i x y
    cases hl with
    | cons _ x' _ _ hx ht =>
    cases ht with
    | cons _ y' _ _ hy ht =>
    cases ht
    split at h
    · rename_i k la ha k' lb hb e1 e2
      cases hk : decide (k = k') with
      | false => rw [hk] at h; cases h
      | true =>
      have := of_decide_eq_true hk
      subst this
      rw [hk] at h
      simp only [Bool.not_true, cond_false] at h
      obtain ⟨m, rfl, h1, h2⟩ := bnds_ok e1 hx
      obtain ⟨n, rfl, h3, h4⟩ := bnds_ok e2 hy
      have hmin : (Builtin.min_ ts ty ⟨[.int k m, .int k n]⟩).run P w = .ok (.int k (if (n : Int) < m then n else m)) w := by simp [Builtin.min_, Builtin.min2]
      have hmax : (Builtin.max_ ts ty ⟨[.int k m, .int k n]⟩).run P w = .ok (.int k (if (n : Int) > m then n else m)) w := by simp [Builtin.max_, Builtin.max2]
      rw [hmin, hmax]
      clear hmin hmax
      cases hc : Nat.ble ha lb with
      | true =>
        rw [hc] at h
        have hle := Nat.le_of_ble_eq_true hc
        injection h with q1 q2
        subst q2
        cases gr with
        | false =>
          refine ⟨rfl, _, by rw [← q1]; exact hx, fun _ => ?_, fun e => by cases e⟩
          rw [if_neg (by omega)]
        | true =>
          refine ⟨rfl, _, by rw [← q1]; exact hy, (fun e => by cases e), fun _ => ?_⟩
          by_cases hq : (n : Int) > m
          · rw [if_pos hq]
          · rw [if_neg hq, show (m : Int) = n by omega]
      | false =>
        rw [hc] at h
        simp only [cond_false] at h
        cases hd : Nat.ble hb la with
        | false => rw [hd] at h; cases h
        | true =>
          rw [hd] at h
          have hle := Nat.le_of_ble_eq_true hd
          injection h with q1 q2
          subst q2
          cases gr with
          | false =>
            refine ⟨rfl, _, by rw [← q1]; exact hy, fun _ => ?_, fun e => by cases e⟩
            by_cases hq : (n : Int) < m
            · rw [if_pos hq]
            · rw [if_neg hq, show (m : Int) = n by omega]
          | true =>
            refine ⟨rfl, _, by rw [← q1]; exact hx, (fun e => by cases e), fun _ => ?_⟩
            rw [if_neg (by omega)]
    · cases h
  · cases h
theorem args_eq (e : Operand → Value) (l : Array Operand) : l.map e = ⟨l.toList.map e⟩ := by apply Array.ext'; simp
/-- What reads. -/
theorem quiet1_ok {ih : Ih} {a : Ac} {e' : Operand → Value} {o : Oper} {v : Value} {s' : St} (hk : opKind P o = 1) (h : oper P b.G ih a o s = .ok v s') (hx : OpsRel ρ a e' o) (hw : WRel P b ρ s w) : s' = s ∧ NOk P ρ w v (execOp e' o) := by
  unfold OpsRel at hx
  have h0 := h
  unfold oper at h
  unfold opKind at hk
  cases ho : o.op <;> rw [ho] at h hx hk <;> first | (cases hk; done) | skip
  case load t p =>
    simp only [Op.operands, List.mem_cons, List.not_mem_nil, or_false, forall_eq] at hx
    obtain ⟨g1, g2⟩ := doLoad_ok h hx hw
    refine ⟨g1, ?_⟩
    unfold execOp
    rw [ho]
    exact .of g2
  case slice t x lo hi mx =>
    have hm : ∀ y, (y = x ∨ some y = lo ∨ some y = hi ∨ some y = mx) → VRel ρ (ev a y) (e' y) := fun y hy => hx y (by
      simp only [Op.operands]
      rcases hy with rfl | rfl | rfl | rfl <;> simp)
    obtain ⟨g1, g2⟩ := doSlice_ok h (hm x (.inl rfl)) (opt_rel fun y hy => hm y (.inr (.inl hy.symm))) (opt_rel fun y hy => hm y (.inr (.inr (.inl hy.symm)))) (opt_rel fun y hy => hm y (.inr (.inr (.inr hy.symm)))) hw
    refine ⟨g1, ?_⟩
    unfold execOp
    rw [ho]
    exact .of g2
  case convert src dst x =>
    simp only [Op.operands, List.mem_cons, List.not_mem_nil, or_false, forall_eq] at hx
    obtain ⟨g1, g2⟩ := doConvert_ok h hx hw (by
      intro e he
      dsimp only at hk
      rw [he] at hk
      cases hk)
    refine ⟨g1, ?_⟩
    unfold execOp
    rw [ho]
    exact .of g2
  case call c =>
    have ha : LRel ρ (c.args.toList.map (ev a)) (c.args.toList.map e') := LRel.map_ _ fun x hxm => hx x (by
      simp only [Op.operands, Call.operands]
      simp [Array.mem_toList_iff.1 hxm])
    obtain ⟨callee, args, ts⟩ := c
    have hae := args_eq e' args
    cases callee with
    | value _ => cases hk
    | invoke _ _ => cases hk
    | builtin bi =>
      have hres : ∀ {w : World} {n : Next}, (builtin bi ts o.type (args.map fun | .const _ => true | _ => false) ⟨args.toList.map e'⟩).run P w = .ok n w → (execOp e' o).run P w = .ok n w := fun h => by
        unfold execOp
        rw [ho]
        simp only [resolve, Sem.run_bind, Sem.run_pure, Result.andThen_ok, invoke, hae]
        exact h
      have hflat : (bif flats (args.toList.map (ev a)) then doFlat P (.bool true) (do match ← (execOp (ev a) o) with | .value v => pure v | _ => stuck "") s else .no 123 0) = .ok v s' → s' = s ∧ NOk P ρ w v (execOp e' o) := fun h => by
        obtain ⟨hf, h⟩ := bif_ok h
        have hl := flats_eq ha hf
        have hexec : execOp e' o = execOp (ev a) o := by
          unfold execOp
          rw [ho]
          simp only [resolve, args_eq]
          rw [hl]
        unfold doFlat at h
        simp only [flat, cond_true] at h
        cases hx2 : flatRun P (do match ← (execOp (ev a) o) with | .value v => pure v | _ => stuck "") with
        | none => rw [hx2] at h; cases h
        | some u =>
          rw [hx2] at h
          obtain ⟨h1, h⟩ := bif_ok h
          injection h with e1 e2
          subst e1; subst e2
          obtain ⟨n, h3, h4⟩ := flatRun_bind _ hx2
          cases n <;> first | (simp [flatRun, stuck] at h4; done) | skip
          rename_i u'
          have : u' = u := by simpa [flatRun, pure] using h4
          subst this
          rw [hexec]
          exact ⟨rfl, _, flat_refl ρ h1, flat_run _ h3 w⟩
      cases bi <;> first | (cases hk; done) | skip
      case len =>
        obtain ⟨g1, v', g3, g4⟩ := doLen_ok (ty := o.type) h ha hw
        exact ⟨g1, v', g3, hres (by simp [builtin, g4])⟩
      case min =>
        cases hf : flats (args.toList.map (ev a)) with
        | true => exact hflat (by unfold doCall at h; dsimp only at h; rw [hf] at h ⊢; exact h)
        | false =>
          unfold doCall at h
          dsimp only at h
          rw [hf] at h
          obtain ⟨g1, v', g3, g4⟩ := mmAny_ok (ty := o.type) (ts := ts) (w := w) (P := P) h ha
          exact ⟨g1, v', g3, hres (by simp [builtin, g4.1 rfl])⟩
      case max =>
        cases hf : flats (args.toList.map (ev a)) with
        | true => exact hflat (by unfold doCall at h; dsimp only at h; rw [hf] at h ⊢; exact h)
        | false =>
          unfold doCall at h
          dsimp only at h
          rw [hf] at h
          obtain ⟨g1, v', g3, g4⟩ := mmAny_ok (ty := o.type) (ts := ts) (w := w) (P := P) h ha
          exact ⟨g1, v', g3, hres (by simp [builtin, g4.2 rfl])⟩
      case cap =>
        obtain ⟨g1, v', g3, g4⟩ := doCap_ok (ty := o.type) (w := w) h ha
        exact ⟨g1, v', g3, hres (by simp [builtin, g4])⟩
end
end Go.Proofs.YtkcgggobcnlnpaaGreatDoor.X

namespace Go.Proofs.YtkcgggobcnlnpaaGreatDoor.X
open Go.RowKit

section
variable {P : Program} {b : Base} {ρ : Ren} {s : St} {w : World}

def MadeN (P : Program) (ρ : Ren) (w : World) (id : Nat) (cs : List Value) (e : TypeId) (lo : Bool) (v : Value) (x : Sem Next) : Prop :=
  ∃ w1 o' cap v', (w1 = w ∨ w1 = w.drew) ∧ x.run P w = .ok (.value v') (w1.alloc o') ∧ ∀ ρ' : Ren, ρ.Le ρ' → ρ' id = some ⟨w.heap.size, 0, cap⟩ → ORel P ρ' ⟨w.heap.size, 0, cap⟩ (.row cs e lo) o' ∧ VRel ρ' v v'
theorem MadeN.of {id : Nat} {cs : List Value} {e : TypeId} {lo : Bool} {v : Value} {x : Sem Value} (h : MadeR P ρ w id cs e lo v x) : MadeN P ρ w id cs e lo v (do pure (Next.value (← x))) := by
  obtain ⟨o', cap, v', h1, h2⟩ := h
  exact ⟨w, o', cap, v', .inl rfl, run_v h1, h2⟩
theorem freeze_new (w : World) (c : Array Value) (e : TypeId) : (w.alloc (.cells c e)).freeze ⟨w.heap.size, c.size, none⟩ 1 = w.alloc (.cells c e (c.size, c.size + 1)) := by
  unfold World.freeze World.alloc
  rw [if_neg (by decide)]
  congr 1
  apply Array.ext_getElem?
  intro i
  rw [Array.getElem?_modify]
  by_cases h : w.heap.size = i
  · subst h
    simp
  · simp only [h, if_false]
    rw [Array.getElem?_push, Array.getElem?_push]
    simp [Ne.symm h]
theorem doToBytes_ok {e : TypeId} {bs : ByteArray} {v : Value} {s' : St} (h : doToBytes P e bs s = .ok v s') :
    ∃ cs lo, s' = newS cs e lo s ∧ ∀ (ρ : Ren) (w : World) (src dst : TypeId), P.underlying dst = some (.slice e) → (∃ d, P.underlying src = some d) → MadeN P ρ w s.next cs e lo v (do pure (Next.value (← convert src dst (.string bs)))) := by
  unfold doToBytes at h
  cases he : P.underlying e with
  | none => rw [he] at h; cases h
  | some d =>
    rw [he] at h
    cases d <;> first | (cases h; done) | skip
    rename_i k
    cases k <;> first | (cases h; done) | skip
    have hz : szT P e = some 1 := by
      cases hz : szT P e with
      | none => rw [hz] at h; cases h
      | some n =>
        rw [hz] at h
        rcases n with _ | _ | n <;> first | (cases h; done) | rfl
    rw [hz] at h
    obtain ⟨rfl, rfl⟩ := sliceOf_ok h
    refine ⟨_, _, rfl, fun ρ w src dst hd ⟨ds, hsrc⟩ => ?_⟩
    generalize hcap : grownCap w bs.size 0 e = cap
    have hge : bs.size ≤ cap := by rw [← hcap]; exact growCap_ge w bs.size 0 e
    have hlen : (bytesV bs.data.toList).length = bs.size := by simp [bytesV]
    have hcs : (bs.data.map fun b => Value.int .u8 b.toNat) ++ Array.replicate (cap - bs.size) (.int .u8 0) = ⟨bytesV bs.data.toList ++ List.replicate (cap - bs.size) (.int .u8 0)⟩ := by
      apply Array.ext'
      simp [bytesV]
    have hsz : (⟨bytesV bs.data.toList ++ List.replicate (cap - bs.size) (.int .u8 0)⟩ : Array Value).size = cap := by
      show (bytesV bs.data.toList ++ List.replicate (cap - bs.size) (Value.int .u8 0)).length = cap
      rw [List.length_append, hlen, List.length_replicate]; omega
    have hfl : flats (bytesV bs.data.toList) = true := by
      unfold bytesV
      generalize bs.data.toList = l
      induction l with
      | nil => rfl
      | cons _ _ ih => simpa [flats, flat] using ih
    refine ⟨w.drew, .cells ⟨bytesV bs.data.toList ++ List.replicate (cap - bs.size) (.int .u8 0)⟩ e (cap, cap + 1), cap, .slice (some ⟨w.heap.size, 0, none⟩) bs.size cap, .inr rfl, run_v ?_, fun ρ' hle hid => ⟨⟨_, _, rfl, ?_, ?_, ?_, ?_⟩, .slice _ _ _ _ _ ⟨rfl, _, hid, by simp⟩ ⟨hge, ?_⟩⟩⟩
    · have hfr := freeze_new w.drew ⟨bytesV bs.data.toList ++ List.replicate (cap - bs.size) (.int .u8 0)⟩ e
      rw [hsz] at hfr
      have hcv : (convert src dst (.string bs)).run P w = (Conv.stringToBytes e bs).run P w := by
        cases ds <;> simp [convert, xu hsrc, xu hd, xu he]
      rw [hcv]
      have hcap' : (Question.appendCap bs.size 0 e).cut (w.tape w.drawn (Question.appendCap bs.size 0 e)) = cap := hcap
      generalize (⟨bytesV bs.data.toList ++ List.replicate (cap - bs.size) (.int .u8 0)⟩ : Array Value) = X at hfr hsz hcs ⊢
      have hch : (choose (.appendCap bs.size 0 e)).run P w = .ok cap w.drew := by
        simp [choose, Sem.run, Question.forced, hcap']
      have hnr : (Go.newRow e X).run P w.drew = .ok ⟨w.heap.size, 0, none⟩ (w.drew.alloc (.cells X e)) := by simp [Go.newRow]
      have hsh : (w.drew.alloc (.cells X e)).shape? w.heap.size = some (e, cap) := by
        have : (w.drew.alloc (.cells X e)).heap[w.heap.size]? = some (.cells X e) := heap_alloc_new w.drew _
        unfold World.shape?
        rw [this]
        dsimp only
        rw [hsz]
      have hms : (markStringish ⟨w.heap.size, 0, none⟩).run P (w.drew.alloc (.cells X e)) = .ok () (w.drew.alloc (.cells X e (cap, cap + 1))) := by
        simp only [markStringish, Sem.run_bind, run_shape, hsh, Result.andThen_ok, run_freeze]
        exact congrArg _ hfr
      simp only [Conv.stringToBytes, Sem.run_bind, hch, Result.andThen_ok, hcs, hnr, hms, Sem.run_pure]
    · intro j hj
      dsimp only at hj ⊢
      rw [hsz] at hj
      omega
    · rw [hsz, hlen]; show 0 + bs.size ≤ cap; omega
    · intro j v hj
      obtain ⟨v', g1, g2⟩ := (flats_refl ρ' hfl).get hj
      refine ⟨v', ?_, g2⟩
      have hlt := (List.getElem?_eq_some_iff.1 g1).1
      simp only [Nat.zero_add, List.getElem?_toArray]
      rw [List.getElem?_append_left hlt]; exact g1
    · intro _ m hm
      rw [hz] at hm
      injection hm with hm
      subst hm
      rw [hsz, hlen]
      dsimp only
      omega
    · rw [if_pos isInf_INF]
      exact ⟨Nat.le_refl _, _, hid, by simp⟩

/-- What makes. -/
theorem made_ok {ih : Ih} {a : Ac} {o : Oper} {v : Value} {s' : St} (hk : opKind P o = 2) (h : oper P b.G ih a o s = .ok v s') :
    ∃ cs e lo, s' = newS cs e lo s ∧ ∀ (ρ : Ren) (w : World) (e' : Operand → Value), OpsRel ρ a e' o → MadeN P ρ w s.next cs e lo v (execOp e' o) := by
  unfold oper at h
  unfold opKind at hk
  unfold OpsRel
  cases ho : o.op <;> rw [ho] at h hk <;> first | (cases hk; done) | skip
  case alloc t =>
    obtain ⟨cs, e, lo, h1, h2⟩ := doAlloc_ok h
    refine ⟨cs, e, lo, h1, fun ρ w e' _ => ?_⟩
    unfold execOp
    rw [ho]
    exact .of (h2 ρ w)
  case box t x =>
    obtain ⟨cs, e, lo, h1, h2⟩ := doBox_ok h
    refine ⟨cs, e, lo, h1, fun ρ w e' hx => ?_⟩
    unfold execOp
    rw [ho]
    exact .of (h2 ρ w _ (hx x (by simp [Op.operands])))
  case buildSlice t n ps =>
    obtain ⟨cs, e, lo, h1, h2⟩ := doBuildSlice_ok h
    refine ⟨cs, e, lo, h1, fun ρ w e' hx => ?_⟩
    have hp : PRel ρ (ps.toList.map fun p => (p.1, ev a p.2)) (ps.toList.map fun p => (p.1, e' p.2)) := PRel.of_map _ fun p hp => hx p.2 (by have := Array.mem_toList_iff.1 hp; simp [Op.operands]; exact ⟨p.1, this⟩)
    have e3 : (ps.map fun (i, x) => (i, e' x)) = ⟨ps.toList.map fun p => (p.1, e' p.2)⟩ := by apply Array.ext'; simp
    have := h2 ρ w _ hp
    rw [← e3] at this
    unfold execOp
    rw [ho]
    exact .of this
  case makeSlice t l c =>
    obtain ⟨cs, e, lo, h1, h2⟩ := doMakeSlice_ok h
    refine ⟨cs, e, lo, h1, fun ρ w e' hx => ?_⟩
    unfold execOp
    rw [ho]
    exact .of (h2 ρ w _ _ (hx l (by simp [Op.operands])) (hx c (by simp [Op.operands])))
  case convert src dst x =>
    dsimp only at h hk
    have hd : ∃ e, P.underlying dst = some (.slice e) := by
      cases hd : P.underlying dst with
      | none => rw [hd] at hk; cases hk
      | some d => rw [hd] at hk; cases d <;> first | (cases hk; done) | exact ⟨_, rfl⟩
    obtain ⟨e, hd⟩ := hd
    unfold doConvert at h
    rw [hd] at h
    dsimp only at h
    cases hv : ev a x <;> rw [hv] at h <;> first | (cases h; done) | skip
    rename_i bs
    dsimp only at h
    have hsrc : ∃ d, P.underlying src = some d := by
      cases hs : P.underlying src with
      | none => rw [hs] at h; cases h
      | some d => exact ⟨d, rfl⟩
    have h' : doToBytes P e bs s = .ok v s' := by
      obtain ⟨d, hs⟩ := hsrc
      rw [hs] at h
      exact h
    obtain ⟨cs, lo, h1, h2⟩ := doToBytes_ok h'
    refine ⟨cs, e, lo, h1, fun ρ w e' hx => ?_⟩
    have hx1 := hx x (by simp [Op.operands])
    rw [hv] at hx1
    have he : e' x = .string bs := by
      generalize e' x = y at hx1
      cases hx1; rfl
    unfold execOp
    rw [ho]
    show MadeN P ρ w s.next cs e lo v (do pure (Next.value (← convert src dst (e' x))))
    rw [he]
    exact h2 ρ w src dst hd hsrc
  case call c =>
    exfalso
    obtain ⟨callee, args, ts⟩ := c
    cases callee with
    | builtin bi => cases bi <;> cases hk
    | _ => cases hk
end
end Go.Proofs.YtkcgggobcnlnpaaGreatDoor.X
