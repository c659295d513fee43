/- A runner for closed calls, part 7: Yo Yp Yq Yr Ys Yt. -/
import Derived.Test.YtdhkebolenbpiaaGreatDoorKnf
import Derived.AtR
namespace Go.Proofs.YtdhkebolenbpiaaGreatDoor.X
open Go.RowKit

section
variable {P : Program} {b : Base} {ρ : Ren} {s : St} {w : World}

theorem ptr_obj {ρ' : Ren} {id g : Nat} (h : ρ' id = some ⟨g, 0, 0⟩) : VRel ρ' (.pointer (some ⟨id, 0, none⟩)) (.pointer (some ⟨g, 0, none⟩)) :=
  .ptr _ _ ⟨rfl, _, h, by simp⟩
theorem doRangeOp_ok {t : TypeId} {x x' v : Value} {s' : St} (h : doRangeOp P t x s = .ok v s') (hx : VRel ρ x x') (hw : WRel P b ρ s w) : EOk P b ρ s s' w v (Instr.range t x') := by
  unfold doRangeOp at h
  cases hu : P.underlying t with
  | none => rw [hu] at h; cases h
  | some d =>
    rw [hu] at h
    cases d <;> first | (cases h; done) | skip
    case string =>
      cases hx <;> first | (cases h; done) | skip
      rename_i bs
      injection h with e1 e2
      subst e1; subst e2
      obtain ⟨h1, h2, h3⟩ := newObj_ok hw (o := .stringIter bs 0) (o' := .stringIter bs 0) fun ρ' _ => rfl
      exact ⟨_, _, _, h1, ptr_obj h3, by simp [Instr.range, xu hu]⟩
    case map kt vt =>
      cases hx <;> first | (cases h; done) | skip
      case mapN =>
        injection h with e1 e2
        subst e1; subst e2
        obtain ⟨h1, h2, h3⟩ := newObj_ok hw (o := .mapIter none 0 #[] 0) (o' := .mapIter none 0 #[] 0) fun ρ' _ => ⟨none, rfl, rfl⟩
        exact ⟨_, _, _, h1, ptr_obj h3, by simp [Instr.range, xu hu]⟩
      case map r l hr =>
        dsimp only at h
        obtain ⟨e, he, h⟩ := ofO_ok h
        injection h with e1 e2
        subst e1; subst e2
        obtain ⟨h4, es', h5, h6⟩ := mapOf_ok he hr hw
        obtain ⟨h1, h2, h3⟩ := newObj_ok hw (o := .mapIter (some r) e.2 #[] e.2) (o' := .mapIter (some l.blk) e.2 #[] e.2) fun ρ' hle => ⟨_, ⟨l, hle _ _ hr, rfl⟩, rfl⟩
        exact ⟨_, _, _, h1, ptr_obj h3, by simp [Instr.range, xu hu, run_getMap h5]⟩

theorem objOf_ok {r : Nat} {o : Obj} (h : objOf r s = some o) : s.heap.get r = some (.obj o) := by
  unfold objOf at h
  cases hg : s.heap.get r with
  | none => rw [hg] at h; cases h
  | some x =>
    rw [hg] at h
    cases x <;> first | (cases h; done) | skip
    injection h with h
    subst h
    rfl
def bornP (p : Nat → Bool) (e : MapEntry) : Bool := p e.born
theorem ERel.filter (p : Nat → Bool) : ∀ {es es' : List MapEntry}, ERel ρ es es' → ERel ρ (es.filter (bornP p)) (es'.filter (bornP p))
  | _, _, .nil => .nil
  | _, _, .cons e e' l l' h t => by
    have hb : bornP p e' = bornP p e := by unfold bornP; rw [h.2.2]
    cases hp : bornP p e with
    | true =>
      rw [List.filter_cons_of_pos hp, List.filter_cons_of_pos (hb.trans hp)]
      exact .cons _ _ _ _ h (ERel.filter p t)
    | false =>
      rw [List.filter_cons_of_neg (by rw [hp]; simp), List.filter_cons_of_neg (by rw [hb, hp]; simp)]
      exact ERel.filter p t
theorem ERel.all (p : Nat → Bool) : ∀ {es es' : List MapEntry}, ERel ρ es es' → es'.all (bornP p) = es.all (bornP p)
  | _, _, .nil => rfl
  | _, _, .cons e e' l l' h t => by
    have hb : bornP p e' = bornP p e := by unfold bornP; rw [h.2.2]
    simp only [List.all_cons, hb, ERel.all p t]
theorem run_next_map {r m since last : Nat} {seen : Array Nat} {es' : List MapEntry} {clk : Nat} {ty : TypeId} (hr : w.heap[r]? = some (.mapIter (some m) since seen last)) (hm : w.heap[m]? = some (.map ⟨es'⟩ clk))
    (hnb : (!seen.isEmpty && !(⟨es'⟩ : Array MapEntry).isEmpty && es'.all (bornP fun n => decide (n ≥ last))) = false) {old new : List MapEntry}
    (ho : ((es'.filter (bornP fun n => !seen.contains n)).filter (bornP fun n => decide (n < since))) = old) (hn : ((es'.filter (bornP fun n => !seen.contains n)).filter (bornP fun n => decide (n ≥ since))) = new) :
    (old = [] → new = [] → (Instr.next (.pointer (some ⟨r, 0, none⟩)) false ty).run P w = .ok (.tuple #[.bool false]) w) ∧
    (∀ x, old = [x] → new = [] → (Instr.next (.pointer (some ⟨r, 0, none⟩)) false ty).run P w = .ok (.tuple #[.bool true, x.key, x.val]) (setBlk w r (.mapIter (some m) since (seen.push x.born) clk))) := by
  have hgo : (getObj r).run P w = .ok (.mapIter (some m) since seen last) w := by simp [getObj, Sem.run, hr]
  have hgm := run_getMap (P := P) hm
  have hso : ∀ o, (setObj r o).run P w = .ok () (setBlk w r o) := fun o => by simp [setObj, Sem.run, hr, setBlk]
  have hall : (⟨es'⟩ : Array MapEntry).all (fun x => decide (x.born ≥ last)) = es'.all (bornP fun n => decide (n ≥ last)) := by simp; rfl
  have hnb' : (!seen.isEmpty && !(⟨es'⟩ : Array MapEntry).isEmpty && (⟨es'⟩ : Array MapEntry).all (fun x => decide (x.born ≥ last))) = false := by rw [hall]; exact hnb
  have hold : ((⟨es'⟩ : Array MapEntry).filter fun e => !seen.contains e.born).filter (fun x => decide (x.born < since)) = ⟨old⟩ := by
    apply Array.ext'
    rw [← ho]
    simp [bornP]
  have hnew : ((⟨es'⟩ : Array MapEntry).filter fun e => !seen.contains e.born).filter (fun x => decide (x.born ≥ since)) = ⟨new⟩ := by
    apply Array.ext'
    rw [← hn]
    simp [bornP]
  refine ⟨fun h1 h2 => ?_, fun x h1 h2 => ?_⟩
  all_goals
    subst h1; subst h2
    unfold Instr.next
    simp only [Sem.run_bind, hgo, Result.andThen_ok, hgm]
    rw [if_neg (by rw [hnb']; simp)]
    simp only [hold, hnew, Sem.run_bind]
    simp [choose, Sem.run, Question.forced, hso]

theorem doNextOp_ok {it it' v : Value} {st : Bool} {ty : TypeId} {s' : St} (h : doNextOp b.G it st s = .ok v s') (hx : VRel ρ it it') (hw : WRel P b ρ s w) : EOk P b ρ s s' w v (Instr.next it' st ty) := by
  have tup : ∀ {ρ : Ren} {l l' : List Value}, LRel ρ l l' → VRel ρ (.tuple ⟨l⟩) (.tuple ⟨l'⟩) := fun h => .tuple _ _ h
  have over : VRel ρ (.tuple #[.bool false]) (.tuple #[.bool false]) := tup (.cons _ _ _ _ (.bool false) .nil)
  unfold doNextOp at h
  split at h
  · rename_i r
    cases hx with
    | ptr _ a' ha =>
      obtain ⟨_, l, hl, rfl⟩ := ha
      dsimp only at hl ⊢
      cases hG : Nat.ble b.G r with
      | false => rw [hG] at h; cases h
      | true =>
        rw [hG] at h
        simp only [Bool.not_true, cond_false] at h
        have hG := Nat.le_of_ble_eq_true hG
        obtain ⟨o, ho, h⟩ := ofO_ok h
        have hg := objOf_ok ho
        obtain ⟨o', h1, h2⟩ := hw.heap _ _ _ hg (by simp) hl
        obtain ⟨hsh, h2⟩ := h2
        rw [hsh]
        have hgo : ∀ {o2}, w.heap[l.blk]? = some o2 → (∀ c e f, o2 ≠ .cells c e f) → (getObj l.blk).run P w = .ok o2 w := fun {o2} h hc => by
          cases o2 <;> first | exact absurd rfl (hc _ _ _) | simp [getObj, Sem.run, h]
        have hso : ∀ {o2} (x : Obj), w.heap[l.blk]? = some o2 → (∀ c e f, o2 ≠ .cells c e f) → (setObj l.blk x).run P w = .ok () (setBlk w l.blk x) := fun {o2} x h hc => by
          cases o2 <;> first | exact absurd rfl (hc _ _ _) | simp [setObj, Sem.run, h, setBlk]
        cases o <;> first | (cases st <;> cases h; done) | skip
        case stringIter bs pos =>
          cases st with
          | false => cases h
          | true =>
            have h2 : o' = .stringIter bs pos := h2
            subst h2
            have g1 := hgo h1 (by simp)
            dsimp only at h
            cases hp : Nat.blt pos bs.size with
            | true =>
              rw [hp] at h
              simp only [cond_true] at h
              injection h with e1 e2
              subst e1; subst e2
              have hp : pos < bs.size := Nat.le_of_ble_eq_true hp
              have hset := setObj_ok hw hg hl hG (o1 := .stringIter bs (pos + (Utf8.decode bs pos).2)) (o1' := .stringIter bs (pos + (Utf8.decode bs pos).2)) rfl
              have g2 := hso (.stringIter bs (pos + (Utf8.decode bs pos).2)) h1 (by simp)
              refine ⟨ρ, _, _, hset, tup (.cons _ _ _ _ (.bool true) (.cons _ _ _ _ (.int .i64 pos) (.cons _ _ _ _ (.int .i32 (Utf8.decode bs pos).1) .nil))), ?_⟩
              simp [Instr.next, g1, hp, g2, goInt]
            | false =>
              rw [hp] at h
              simp only [cond_false] at h
              injection h with e1 e2
              subst e1; subst e2
              have hp : ¬ pos < bs.size := fun h => by rw [show Nat.blt pos bs.size = true from Nat.ble_eq_true_of_le h] at hp; cases hp
              exact ⟨ρ, w, _, .refl hw, over, by simp [Instr.next, g1, hp]⟩
        case mapIter m since seen last =>
          cases st with
          | true => cases m <;> cases h
          | false =>
            obtain ⟨m', hm, rfl⟩ := h2
            have g1 := hgo h1 (by simp)
            cases m with
            | none =>
              have hm : m' = none := hm
              subst hm
              dsimp only at h
              injection h with e1 e2
              subst e1; subst e2
              exact ⟨ρ, w, _, .refl hw, over, by simp [Instr.next, g1]⟩
            | some m =>
              obtain ⟨k, hk, rfl⟩ := hm
              dsimp only at h
              obtain ⟨e, he, h⟩ := ofO_ok h
              obtain ⟨h4, es', h5, h6⟩ := mapOf_ok he hk hw
              cases hnb : (!seen.isEmpty && !e.1.toList.isEmpty && e.1.toList.all (fun x => decide (x.born ≥ last))) with
              | true => rw [hnb] at h; cases h
              | false =>
                rw [hnb] at h
                simp only [cond_false] at h
                have hnb' : (!seen.isEmpty && !(⟨es'⟩ : Array MapEntry).isEmpty && es'.all (bornP fun n => decide (n ≥ last))) = false := by
                  have e1 : (⟨es'⟩ : Array MapEntry).isEmpty = e.1.toList.isEmpty := by
                    have : (⟨es'⟩ : Array MapEntry).isEmpty = es'.isEmpty := by cases es' <;> rfl
                    rw [this]; exact h6.isEmpty
                  rw [e1, h6.all (fun n => decide (n ≥ last))]
                  exact hnb
                have fo := (h6.filter fun n => !seen.contains n).filter fun n => decide (n < since)
                have fn := (h6.filter fun n => !seen.contains n).filter fun n => decide (n ≥ since)
                obtain ⟨r1, r2⟩ := run_next_map (P := P) (ty := ty) h1 h5 hnb' rfl rfl
                have eo : (e.1.toList.filter (bornP fun n => !seen.contains n)).filter (bornP fun n => decide (n < since)) = (e.1.toList.filter fun x => !seen.contains x.born).filter fun x => decide (x.born < since) := rfl
                have en : (e.1.toList.filter (bornP fun n => !seen.contains n)).filter (bornP fun n => decide (n ≥ since)) = (e.1.toList.filter fun x => !seen.contains x.born).filter fun x => decide (x.born ≥ since) := rfl
                rw [eo] at fo
                rw [en] at fn
                generalize (e.1.toList.filter fun x => !seen.contains x.born).filter (fun x => decide (x.born < since)) = old at fo h
                generalize (e.1.toList.filter fun x => !seen.contains x.born).filter (fun x => decide (x.born ≥ since)) = new at fn h
                generalize (es'.filter (bornP fun n => !seen.contains n)).filter (bornP fun n => decide (n < since)) = old' at fo r1 r2
                generalize (es'.filter (bornP fun n => !seen.contains n)).filter (bornP fun n => decide (n ≥ since)) = new' at fn r1 r2
                cases fn with
                | cons _ _ _ _ _ _ => cases fo with
                  | nil => cases h
                  | cons _ _ _ _ _ t => cases t <;> cases h
                | nil =>
                  cases fo with
                  | nil =>
                    injection h with e1 e2
                    subst e1; subst e2
                    exact ⟨ρ, w, _, .refl hw, over, r1 rfl rfl⟩
                  | cons x x' _ _ hxx t =>
                    cases t with
                    | cons _ _ _ _ _ _ => cases h
                    | nil =>
                      injection h with e1 e2
                      subst e1; subst e2
                      have hrun := r2 x' rfl rfl
                      have hset := setObj_ok hw hg hl hG (o1 := .mapIter (some m) since (seen.push x.born) e.2) (o1' := .mapIter (some k.blk) since (seen.push x'.born) e.2) ⟨_, ⟨k, hk, rfl⟩, by rw [hxx.2.2]⟩
                      exact ⟨ρ, _, _, hset, tup (.cons _ _ _ _ (.bool true) (.cons _ _ _ _ hxx.1 (.cons _ _ _ _ hxx.2.1 .nil))), hrun⟩
  · cases h
theorem doEntry_ok {it it' v : Value} {s' : St} (h : doEntry it s = .ok v s') (hx : VRel ρ it it') (hw : WRel P b ρ s w) : EOk P b ρ s s' w v (Instr.entry it') := by
  unfold doEntry at h
  split at h
  · rename_i r
    cases hx with
    | ptr _ a' ha =>
      obtain ⟨_, l, hl, rfl⟩ := ha
      dsimp only at hl ⊢
      obtain ⟨o, ho, h⟩ := ofO_ok h
      have hg := objOf_ok ho
      obtain ⟨o', h1, hsh, h2⟩ := hw.heap _ _ _ hg (by simp) hl
      rw [hsh]
      cases o <;> first | (cases h; done) | skip
      rename_i m since seen stepped
      cases m with
      | none => cases h
      | some m =>
        obtain ⟨m', ⟨k, hk, rfl⟩, rfl⟩ := h2
        dsimp only at h
        obtain ⟨st, hst, h⟩ := ofO_ok h
        obtain ⟨e, he, h⟩ := ofO_ok h
        obtain ⟨hc, h⟩ := bif_ok h
        obtain ⟨x, hxf, h⟩ := ofO_ok h
        injection h with e1 e2
        subst e1; subst e2
        have hc := Nat.eq_of_beq_eq_true hc
        obtain ⟨h4, es', h5, h6⟩ := mapOf_ok he hk hw
        have key : ∀ {es es' : List MapEntry}, ERel ρ es es' → es.find? (·.born == st) = some x → ∃ x', es'.find? (·.born == st) = some x' ∧ VRels ρ x x' := by
          intro es es' h
          induction h with
          | nil => intro h; simp at h
          | cons e e' l l' he _ ih =>
            intro h
            rw [List.find?_cons] at h ⊢
            rw [he.2.2]
            cases hb : (e.born == st) with
            | true => rw [hb] at h; injection h with h; subst h; exact ⟨e', rfl, he⟩
            | false => rw [hb] at h; exact ih h
        obtain ⟨x', g1, g2⟩ := key h6 hxf
        refine ⟨ρ, w, _, .refl hw, .tuple _ _ (.cons _ _ _ _ g2.1 (.cons _ _ _ _ g2.2.1 .nil)), ?_⟩
        have hgo : (getObj l.blk).run P w = .ok (.mapIter (some k.blk) since seen stepped) w := by simp [getObj, Sem.run, h1]
        simp [Instr.entry, hgo, hst, run_getMap h5, hc, g1]
  · cases h
end
end Go.Proofs.YtdhkebolenbpiaaGreatDoor.X

namespace Go.Proofs.YtdhkebolenbpiaaGreatDoor.X
open Go.RowKit

section
variable {P : Program} {b : Base} {ρ : Ren} {s : St} {w : World}

theorem run_v {x : Sem Value} {v : Value} {w w' : World} (h : x.run P w = .ok v w') : ((do pure (Next.value (← x))) : Sem Next).run P w = .ok (.value v) w' := by
  simp [h]
theorem run_u {x : Sem Unit} {w w' : World} (h : x.run P w = .ok () w') : ((do x; pure Next.skip) : Sem Next).run P w = .ok .skip w' := by
  simp [h]
/-- The operands are alike. -/
def OpsRel (ρ : Ren) (a : Ac) (e' : Operand → Value) (o : Oper) : Prop := ∀ x ∈ o.op.operands.toList, VRel ρ (ev a x) (e' x)
def NOk (P : Program) (ρ : Ren) (w : World) (v : Value) (x : Sem Next) : Prop := ∃ v', VRel ρ v v' ∧ x.run P w = .ok (.value v') w
theorem NOk.of {v : Value} {x : Sem Value} (h : QOk P ρ w v x) : NOk P ρ w v (do pure (Next.value (← x))) := by
  obtain ⟨v', h1, h2⟩ := h
  exact ⟨v', h1, run_v h2⟩
theorem opt_rel {a : Ac} {e' : Operand → Value} {o : Option Operand} (h : ∀ x, o = some x → VRel ρ (ev a x) (e' x)) : ORelV ρ (o.map (ev a)) (o.map e') := by
  cases o with
  | none => rfl
  | some x => exact ⟨_, rfl, h x rfl⟩

/-- What needs no memory. -/
theorem quiet0_ok {ih : Ih} {a : Ac} {e' : Operand → Value} {o : Oper} {v : Value} {s' : St} (hk : opKind P o = 0) (h : oper P b.G ih a o s = .ok v s') (hx : OpsRel ρ a e' o) : s' = s ∧ NOk P ρ w v (execOp e' o) := by
  unfold OpsRel at hx
  unfold oper at h
  unfold execOp
  unfold opKind at hk
  cases ho : o.op <;> rw [ho] at h hx hk <;> simp only [Op.operands, List.mem_cons, List.not_mem_nil, or_false, forall_eq_or_imp, forall_eq] at hx <;> first | (cases hk; done) | skip
  case move x =>
    injection h with e1 e2
    subst e1; subst e2
    exact ⟨rfl, _, hx, rfl⟩
  case assign x =>
    injection h with e1 e2
    subst e1; subst e2
    exact ⟨rfl, _, hx, rfl⟩
  case pick c x y =>
    obtain ⟨h1, h2, h3⟩ := hx
    dsimp only at h
    cases hc : ev a c <;> rw [hc] at h h1 <;> first | (cases h; done) | skip
    rename_i bb
    have hc' : e' c = .bool bb := by
      generalize e' c = y at h1
      cases h1; rfl
    cases bb
    · injection h with e1 e2
      subst e1; subst e2
      exact ⟨rfl, _, h3, by simp [asBool, hc']⟩
    · injection h with e1 e2
      subst e1; subst e2
      exact ⟨rfl, _, h2, by simp [asBool, hc']⟩
  case binOp op t x y yt =>
    obtain ⟨h1, h2⟩ := hx
    obtain ⟨g1, g2⟩ := doBin_ok (w := w) h h1 h2
    exact ⟨g1, .of g2⟩
  case unOp op t x =>
    obtain ⟨g1, g2, g3⟩ := doFlat_ok (ρ := ρ) (w := w) (_a' := e' x) h
    have := flat_eq hx g2
    rw [← this] at g3
    exact ⟨g1, .of g3⟩
  case fieldAddr t x f =>
    obtain ⟨g1, g2⟩ := doFieldAddr_ok (w := w) h hx
    exact ⟨g1, .of g2⟩
  case indexAddr t x i =>
    obtain ⟨g1, g2⟩ := doIndexAddr_ok (w := w) h hx.1 hx.2
    exact ⟨g1, .of g2⟩
  case field t x f =>
    obtain ⟨g1, g2⟩ := doField_ok (w := w) h hx
    exact ⟨g1, .of g2⟩
  case index t x i =>
    obtain ⟨g1, g2⟩ := doIndex_ok (w := w) h hx.1 hx.2
    exact ⟨g1, .of g2⟩
  case extract x i =>
    dsimp only at h
    cases hv : ev a x <;> rw [hv] at h hx <;> first | (cases h; done) | skip
    rename_i vs
    obtain ⟨vs⟩ := vs
    dsimp only at h
    obtain ⟨u, hu, h⟩ := ofO_ok h
    injection h with e1 e2
    subst e1; subst e2
    exact ⟨rfl, .of (doExtract_ok rfl hu hx)⟩
  case makeInterface t x =>
    dsimp only at h
    cases hu : P.underlying t with
    | none => rw [hu] at h; cases h
    | some d =>
      rw [hu] at h
      cases d <;> first | (cases h; done) | skip
      all_goals
        injection h with e1 e2
        subst e1; subst e2
        exact ⟨rfl, .of ⟨_, .iface _ _ _ hx, by simp [Instr.makeInterface, xu hu]⟩⟩
  case makeFunc fn first cap =>
    dsimp only at h
    have hx' : ∀ x, x ∈ first.toList ∨ x ∈ cap.toList → VRel ρ (ev a x) (e' x) := fun x hm => hx x (by simpa using hm)
    have e3 : (first.map e') = ⟨first.toList.map e'⟩ := by apply Array.ext'; simp
    have e4 : (cap.map e') = ⟨cap.toList.map e'⟩ := by apply Array.ext'; simp
    have hl1 := LRel.map_ (ρ := ρ) (f := ev a) (g := e') first.toList fun x hm => hx' x (.inl hm)
    have hl2 := LRel.map_ (ρ := ρ) (f := ev a) (g := e') cap.toList fun x hm => hx' x (.inr hm)
    show s' = s ∧ NOk P ρ w v (do pure (Next.value (← Instr.makeFunc fn (first.map e') (cap.map e'))))
    rw [e3, e4]
    cases fn <;> first | (cases h; done) | skip
    all_goals
      injection h with e1 e2
      subst e1; subst e2
      exact ⟨rfl, .of ⟨_, .func _ _ _ _ _ _ rfl hl1 hl2, rfl⟩⟩
  case nilCheck x =>
    dsimp only at h ⊢
    cases hv : ev a x <;> rw [hv] at h hx <;> first | (cases h; done) | skip
    case pointer p =>
      cases p with
      | none => cases h
      | some p =>
        injection h with e1 e2
        subst e1; subst e2
        generalize e' x = y at hx ⊢
        cases hx with
        | ptr _ p' hp => exact ⟨rfl, _, .ptr _ _ hp, rfl⟩
    case func f c d =>
      generalize e' x = y at hx ⊢
      cases f <;> first | (cases h; done) | skip
      all_goals
        injection h with e1 e2
        subst e1; subst e2
        cases hx with
        | func _ f' _ _ _ _ hf hc hd =>
          cases f' <;> first | (exact ⟨rfl, _, .func _ _ _ _ _ _ hf hc hd, rfl⟩) | (first | (cases hf; done) | (obtain ⟨_, _, hf⟩ := hf; cases hf))
  case build t ps =>
    have hp : PRel ρ (ps.toList.map fun p => (p.1, ev a p.2)) (ps.toList.map fun p => (p.1, e' p.2)) := PRel.of_map _ fun p hp => hx p.2 (by have := Array.mem_toList_iff.1 hp; simp; exact ⟨p.1, this⟩)
    obtain ⟨g1, g2⟩ := doBuild_ok (w := w) h hp
    have e3 : (ps.map fun (i, x) => (i, e' x)) = ⟨ps.toList.map fun p => (p.1, e' p.2)⟩ := by apply Array.ext'; simp
    rw [← e3] at g2
    exact ⟨g1, .of g2⟩
  case typeAssert x xt t ok =>
    obtain ⟨g1, g2⟩ := doAssert_ok (w := w) (xt := xt) h hx
    exact ⟨g1, .of g2⟩
  case convert src dst x =>
    exfalso
    dsimp only at hk
    split at hk <;> cases hk
  case call c =>
    exfalso
    obtain ⟨callee, args, ts⟩ := c
    cases callee with
    | builtin bi => cases bi <;> cases hk
    | _ => cases hk
end
end Go.Proofs.YtdhkebolenbpiaaGreatDoor.X

namespace Go.Proofs.YtdhkebolenbpiaaGreatDoor.X
open Go.RowKit

section
variable {P : Program} {b : Base} {ρ : Ren} {s : St} {w : World}

theorem doCap_ok {ts : Array TypeId} {ty : TypeId} {args args' : List Value} {v : Value} {s' : St} (h : doCap P ts.toList args s = .ok v s') (ha : LRel ρ args args') : s' = s ∧ QOk P ρ w v (Builtin.cap_ ts ty ⟨args'⟩) := by
  unfold doCap at h
  obtain ⟨ts⟩ := ts
  cases ts with
  | nil => cases h
  | cons t r =>
    cases ha with
    | nil => cases h
    | cons x x' l l' hx hl =>
      cases hl with
      | cons _ _ _ _ _ _ => cases x <;> cases h
      | nil =>
        have hu : ∃ e, P.underlying t = some (.slice e) := by
          cases x <;> first | (cases h; done) | skip
          dsimp only at h
          cases hu : P.underlying t with
          | none => rw [hu] at h; cases h
          | some d =>
            rw [hu] at h
            cases d <;> first | (cases h; done) | exact ⟨_, rfl⟩
        obtain ⟨e, hu⟩ := hu
        cases hx <;> first | (cases h; done) | skip
        all_goals dsimp only at h
        all_goals rw [hu] at h
        · injection h with e1 e2
          subst e1; subst e2
          exact ⟨rfl, _, .int _ _, by simp [Builtin.cap_, xu hu, goInt]⟩
        · rename_i a a' n c c' ha hc
          dsimp only at h
          cases hb : (a.spot.isSome || isInf c) with
          | true => rw [hb] at h; cases h
          | false =>
            rw [hb] at h
            simp only [Bool.or_eq_false_iff] at hb
            injection h with e1 e2
            subst e1; subst e2
            have hc2 := hc.2
            rw [if_neg (by rw [hb.2]; simp)] at hc2
            subst hc2
            exact ⟨rfl, _, .int _ _, by simp [Builtin.cap_, xu hu, goInt]⟩
        · rename_i a a' c c' hsp
          dsimp only at h
          rw [hsp] at h
          cases h
theorem mmAny_ok {gr : Bool} {ts : Array TypeId} {ty : TypeId} {l l' : List Value} {v : Value} {s' : St} (h : mmAny gr l s = .ok v s') (hl : LRel ρ l l') : s' = s ∧ ∃ v', VRel ρ v v' ∧ (gr = false → (Builtin.min_ ts ty ⟨l'⟩).run P w = .ok v' w) ∧ (gr = true → (Builtin.max_ ts ty ⟨l'⟩).run P w = .ok v' w) := by
  unfold mmAny at h
  split at h
  · rename_i x y
    cases hl with
    | cons _ x' _ _ hx ht =>
    cases ht with
    | cons _ y' _ _ hy ht =>
    cases ht
    split at h
    · rename_i k la ha k' lb hb e1 e2
      cases hk : decide (k = k') with
      | false => rw [hk] at h; cases h
      | true =>
      have := of_decide_eq_true hk
      subst this
      rw [hk] at h
      simp only [Bool.not_true, cond_false] at h
      obtain ⟨m, rfl, h1, h2⟩ := bnds_ok e1 hx
      obtain ⟨n, rfl, h3, h4⟩ := bnds_ok e2 hy
      have hmin : (Builtin.min_ ts ty ⟨[.int k m, .int k n]⟩).run P w = .ok (.int k (if (n : Int) < m then n else m)) w := by simp [Builtin.min_, Builtin.min2]
      have hmax : (Builtin.max_ ts ty ⟨[.int k m, .int k n]⟩).run P w = .ok (.int k (if (n : Int) > m then n else m)) w := by simp [Builtin.max_, Builtin.max2]
      rw [hmin, hmax]
      clear hmin hmax
      cases hc : Nat.ble ha lb with
      | true =>
        rw [hc] at h
        have hle := Nat.le_of_ble_eq_true hc
        injection h with q1 q2
        subst q2
        cases gr with
        | false =>
          refine ⟨rfl, _, by rw [← q1]; exact hx, fun _ => ?_, fun e => by cases e⟩
          rw [if_neg (by omega)]
        | true =>
          refine ⟨rfl, _, by rw [← q1]; exact hy, (fun e => by cases e), fun _ => ?_⟩
          by_cases hq : (n : Int) > m
          · rw [if_pos hq]
          · rw [if_neg hq, show (m : Int) = n by omega]
      | false =>
        rw [hc] at h
        simp only [cond_false] at h
        cases hd : Nat.ble hb la with
        | false => rw [hd] at h; cases h
        | true =>
          rw [hd] at h
          have hle := Nat.le_of_ble_eq_true hd
          injection h with q1 q2
          subst q2
          cases gr with
          | false =>
            refine ⟨rfl, _, by rw [← q1]; exact hy, fun _ => ?_, fun e => by cases e⟩
            by_cases hq : (n : Int) < m
            · rw [if_pos hq]
            · rw [if_neg hq, show (m : Int) = n by omega]
          | true =>
            refine ⟨rfl, _, by rw [← q1]; exact hx, (fun e => by cases e), fun _ => ?_⟩
            rw [if_neg (by omega)]
    · cases h
  · cases h
theorem args_eq (e : Operand → Value) (l : Array Operand) : l.map e = ⟨l.toList.map e⟩ := by apply Array.ext'; simp
/-- What reads. -/
theorem quiet1_ok {ih : Ih} {a : Ac} {e' : Operand → Value} {o : Oper} {v : Value} {s' : St} (hk : opKind P o = 1) (h : oper P b.G ih a o s = .ok v s') (hx : OpsRel ρ a e' o) (hw : WRel P b ρ s w) : s' = s ∧ NOk P ρ w v (execOp e' o) := by
  unfold OpsRel at hx
  have h0 := h
  unfold oper at h
  unfold opKind at hk
  cases ho : o.op <;> rw [ho] at h hx hk <;> first | (cases hk; done) | skip
  case load t p =>
    simp only [Op.operands, List.mem_cons, List.not_mem_nil, or_false, forall_eq] at hx
    obtain ⟨g1, g2⟩ := doLoad_ok h hx hw
    refine ⟨g1, ?_⟩
    unfold execOp
    rw [ho]
    exact .of g2
  case slice t x lo hi mx =>
    have hm : ∀ y, (y = x ∨ some y = lo ∨ some y = hi ∨ some y = mx) → VRel ρ (ev a y) (e' y) := fun y hy => hx y (by
      simp only [Op.operands]
      rcases hy with rfl | rfl | rfl | rfl <;> simp)
    obtain ⟨g1, g2⟩ := doSlice_ok h (hm x (.inl rfl)) (opt_rel fun y hy => hm y (.inr (.inl hy.symm))) (opt_rel fun y hy => hm y (.inr (.inr (.inl hy.symm)))) (opt_rel fun y hy => hm y (.inr (.inr (.inr hy.symm)))) hw
    refine ⟨g1, ?_⟩
    unfold execOp
    rw [ho]
    exact .of g2
  case convert src dst x =>
    simp only [Op.operands, List.mem_cons, List.not_mem_nil, or_false, forall_eq] at hx
    obtain ⟨g1, g2⟩ := doConvert_ok h hx hw (by
      intro e he
      dsimp only at hk
      rw [he] at hk
      cases hk)
    refine ⟨g1, ?_⟩
    unfold execOp
    rw [ho]
    exact .of g2
  case call c =>
    have ha : LRel ρ (c.args.toList.map (ev a)) (c.args.toList.map e') := LRel.map_ _ fun x hxm => hx x (by
      simp only [Op.operands, Call.operands]
      simp [Array.mem_toList_iff.1 hxm])
    obtain ⟨callee, args, ts⟩ := c
    have hae := args_eq e' args
    cases callee with
    | value _ => cases hk
    | invoke _ _ => cases hk
    | builtin bi =>
      have hres : ∀ {w : World} {n : Next}, (builtin bi ts o.type (args.map fun | .const _ => true | _ => false) ⟨args.toList.map e'⟩).run P w = .ok n w → (execOp e' o).run P w = .ok n w := fun h => by
        unfold execOp
        rw [ho]
        simp only [resolve, Sem.run_bind, Sem.run_pure, Result.andThen_ok, invoke, hae]
        exact h
      have hflat : (bif flats (args.toList.map (ev a)) then doFlat P (.bool true) (do match ← (execOp (ev a) o) with | .value v => pure v | _ => stuck "") s else .no 123 0) = .ok v s' → s' = s ∧ NOk P ρ w v (execOp e' o) := fun h => by
        obtain ⟨hf, h⟩ := bif_ok h
        have hl := flats_eq ha hf
        have hexec : execOp e' o = execOp (ev a) o := by
          unfold execOp
          rw [ho]
          simp only [resolve, args_eq]
          rw [hl]
        unfold doFlat at h
        simp only [flat, cond_true] at h
        cases hx2 : flatRun P (do match ← (execOp (ev a) o) with | .value v => pure v | _ => stuck "") with
        | none => rw [hx2] at h; cases h
        | some u =>
          rw [hx2] at h
          obtain ⟨h1, h⟩ := bif_ok h
          injection h with e1 e2
          subst e1; subst e2
          obtain ⟨n, h3, h4⟩ := flatRun_bind _ hx2
          cases n <;> first | (simp [flatRun, stuck] at h4; done) | skip
          rename_i u'
          have : u' = u := by simpa [flatRun, pure] using h4
          subst this
          rw [hexec]
          exact ⟨rfl, _, flat_refl ρ h1, flat_run _ h3 w⟩
      cases bi <;> first | (cases hk; done) | skip
      case len =>
        obtain ⟨g1, v', g3, g4⟩ := doLen_ok (ty := o.type) h ha hw
        exact ⟨g1, v', g3, hres (by simp [builtin, g4])⟩
      case min =>
        cases hf : flats (args.toList.map (ev a)) with
        | true => exact hflat (by unfold doCall at h; dsimp only at h; rw [hf] at h ⊢; exact h)
        | false =>
          unfold doCall at h
          dsimp only at h
          rw [hf] at h
          obtain ⟨g1, v', g3, g4⟩ := mmAny_ok (ty := o.type) (ts := ts) (w := w) (P := P) h ha
          exact ⟨g1, v', g3, hres (by simp [builtin, g4.1 rfl])⟩
      case max =>
        cases hf : flats (args.toList.map (ev a)) with
        | true => exact hflat (by unfold doCall at h; dsimp only at h; rw [hf] at h ⊢; exact h)
        | false =>
          unfold doCall at h
          dsimp only at h
          rw [hf] at h
          obtain ⟨g1, v', g3, g4⟩ := mmAny_ok (ty := o.type) (ts := ts) (w := w) (P := P) h ha
          exact ⟨g1, v', g3, hres (by simp [builtin, g4.2 rfl])⟩
      case cap =>
        obtain ⟨g1, v', g3, g4⟩ := doCap_ok (ty := o.type) (w := w) h ha
        exact ⟨g1, v', g3, hres (by simp [builtin, g4])⟩
end
end Go.Proofs.YtdhkebolenbpiaaGreatDoor.X

namespace Go.Proofs.YtdhkebolenbpiaaGreatDoor.X
open Go.RowKit

section
variable {P : Program} {b : Base} {ρ : Ren} {s : St} {w : World}

def MadeN (P : Program) (ρ : Ren) (w : World) (id : Nat) (cs : List Value) (e : TypeId) (lo : Bool) (v : Value) (x : Sem Next) : Prop :=
  ∃ w1 o' cap v', (w1 = w ∨ w1 = w.drew) ∧ x.run P w = .ok (.value v') (w1.alloc o') ∧ ∀ ρ' : Ren, ρ.Le ρ' → ρ' id = some ⟨w.heap.size, 0, cap⟩ → ORel P ρ' ⟨w.heap.size, 0, cap⟩ (.row cs e lo) o' ∧ VRel ρ' v v'
theorem MadeN.of {id : Nat} {cs : List Value} {e : TypeId} {lo : Bool} {v : Value} {x : Sem Value} (h : MadeR P ρ w id cs e lo v x) : MadeN P ρ w id cs e lo v (do pure (Next.value (← x))) := by
  obtain ⟨o', cap, v', h1, h2⟩ := h
  exact ⟨w, o', cap, v', .inl rfl, run_v h1, h2⟩
theorem freeze_new (w : World) (c : Array Value) (e : TypeId) : (w.alloc (.cells c e)).freeze ⟨w.heap.size, c.size, none⟩ 1 = w.alloc (.cells c e (c.size, c.size + 1)) := by
  unfold World.freeze World.alloc
  rw [if_neg (by decide)]
  congr 1
  apply Array.ext_getElem?
  intro i
  rw [Array.getElem?_modify]
  by_cases h : w.heap.size = i
  · subst h
    simp
  · simp only [h, if_false]
    rw [Array.getElem?_push, Array.getElem?_push]
    simp [Ne.symm h]
theorem doToBytes_ok {e : TypeId} {bs : ByteArray} {v : Value} {s' : St} (h : doToBytes P e bs s = .ok v s') :
    ∃ cs lo, s' = newS cs e lo s ∧ ∀ (ρ : Ren) (w : World) (src dst : TypeId), P.underlying dst = some (.slice e) → (∃ d, P.underlying src = some d) → MadeN P ρ w s.next cs e lo v (do pure (Next.value (← convert src dst (.string bs)))) := by
  unfold doToBytes at h
  cases he : P.underlying e with
  | none => rw [he] at h; cases h
  | some d =>
    rw [he] at h
    cases d <;> first | (cases h; done) | skip
    rename_i k
    cases k <;> first | (cases h; done) | skip
    have hz : szT P e = some 1 := by
      cases hz : szT P e with
      | none => rw [hz] at h; cases h
      | some n =>
        rw [hz] at h
        rcases n with _ | _ | n <;> first | (cases h; done) | rfl
    rw [hz] at h
    obtain ⟨rfl, rfl⟩ := sliceOf_ok h
    refine ⟨_, _, rfl, fun ρ w src dst hd ⟨ds, hsrc⟩ => ?_⟩
    generalize hcap : grownCap w bs.size 0 e = cap
    have hge : bs.size ≤ cap := by rw [← hcap]; exact growCap_ge w bs.size 0 e
    have hlen : (bytesV bs.data.toList).length = bs.size := by simp [bytesV]
    have hcs : (bs.data.map fun b => Value.int .u8 b.toNat) ++ Array.replicate (cap - bs.size) (.int .u8 0) = ⟨bytesV bs.data.toList ++ List.replicate (cap - bs.size) (.int .u8 0)⟩ := by
      apply Array.ext'
      simp [bytesV]
    have hsz : (⟨bytesV bs.data.toList ++ List.replicate (cap - bs.size) (.int .u8 0)⟩ : Array Value).size = cap := by
      show (bytesV bs.data.toList ++ List.replicate (cap - bs.size) (Value.int .u8 0)).length = cap
      rw [List.length_append, hlen, List.length_replicate]; omega
    have hfl : flats (bytesV bs.data.toList) = true := by
      unfold bytesV
      generalize bs.data.toList = l
      induction l with
      | nil => rfl
      | cons _ _ ih => simpa [flats, flat] using ih
    refine ⟨w.drew, .cells ⟨bytesV bs.data.toList ++ List.replicate (cap - bs.size) (.int .u8 0)⟩ e (cap, cap + 1), cap, .slice (some ⟨w.heap.size, 0, none⟩) bs.size cap, .inr rfl, run_v ?_, fun ρ' hle hid => ⟨⟨_, _, rfl, ?_, ?_, ?_, ?_⟩, .slice _ _ _ _ _ ⟨rfl, _, hid, by simp⟩ ⟨hge, ?_⟩⟩⟩
    · have hfr := freeze_new w.drew ⟨bytesV bs.data.toList ++ List.replicate (cap - bs.size) (.int .u8 0)⟩ e
      rw [hsz] at hfr
      have hcv : (convert src dst (.string bs)).run P w = (Conv.stringToBytes e bs).run P w := by
        cases ds <;> simp [convert, xu hsrc, xu hd, xu he]
      rw [hcv]
      have hcap' : (Question.appendCap bs.size 0 e).cut (w.tape w.drawn (Question.appendCap bs.size 0 e)) = cap := hcap
      generalize (⟨bytesV bs.data.toList ++ List.replicate (cap - bs.size) (.int .u8 0)⟩ : Array Value) = X at hfr hsz hcs ⊢
      have hch : (choose (.appendCap bs.size 0 e)).run P w = .ok cap w.drew := by
        simp [choose, Sem.run, Question.forced, hcap']
      have hnr : (Go.newRow e X).run P w.drew = .ok ⟨w.heap.size, 0, none⟩ (w.drew.alloc (.cells X e)) := by simp [Go.newRow]
      have hsh : (w.drew.alloc (.cells X e)).shape? w.heap.size = some (e, cap) := by
        have : (w.drew.alloc (.cells X e)).heap[w.heap.size]? = some (.cells X e) := heap_alloc_new w.drew _
        unfold World.shape?
        rw [this]
        dsimp only
        rw [hsz]
      have hms : (markStringish ⟨w.heap.size, 0, none⟩).run P (w.drew.alloc (.cells X e)) = .ok () (w.drew.alloc (.cells X e (cap, cap + 1))) := by
        simp only [markStringish, Sem.run_bind, run_shape, hsh, Result.andThen_ok, run_freeze]
        exact congrArg _ hfr
      simp only [Conv.stringToBytes, Sem.run_bind, hch, Result.andThen_ok, hcs, hnr, hms, Sem.run_pure]
    · intro j hj
      dsimp only at hj ⊢
      rw [hsz] at hj
      omega
    · rw [hsz, hlen]; show 0 + bs.size ≤ cap; omega
    · intro j v hj
      obtain ⟨v', g1, g2⟩ := (flats_refl ρ' hfl).get hj
      refine ⟨v', ?_, g2⟩
      have hlt := (List.getElem?_eq_some_iff.1 g1).1
      simp only [Nat.zero_add, List.getElem?_toArray]
      rw [List.getElem?_append_left hlt]; exact g1
    · intro _ m hm
      rw [hz] at hm
      injection hm with hm
      subst hm
      rw [hsz, hlen]
      dsimp only
      omega
    · rw [if_pos isInf_INF]
      exact ⟨Nat.le_refl _, _, hid, by simp⟩

/-- What makes. -/
theorem made_ok {ih : Ih} {a : Ac} {o : Oper} {v : Value} {s' : St} (hk : opKind P o = 2) (h : oper P b.G ih a o s = .ok v s') :
    ∃ cs e lo, s' = newS cs e lo s ∧ ∀ (ρ : Ren) (w : World) (e' : Operand → Value), OpsRel ρ a e' o → MadeN P ρ w s.next cs e lo v (execOp e' o) := by
  unfold oper at h
  unfold opKind at hk
  unfold OpsRel
  cases ho : o.op <;> rw [ho] at h hk <;> first | (cases hk; done) | skip
  case alloc t =>
    obtain ⟨cs, e, lo, h1, h2⟩ := doAlloc_ok h
    refine ⟨cs, e, lo, h1, fun ρ w e' _ => ?_⟩
    unfold execOp
    rw [ho]
    exact .of (h2 ρ w)
  case box t x =>
    obtain ⟨cs, e, lo, h1, h2⟩ := doBox_ok h
    refine ⟨cs, e, lo, h1, fun ρ w e' hx => ?_⟩
    unfold execOp
    rw [ho]
    exact .of (h2 ρ w _ (hx x (by simp [Op.operands])))
  case buildSlice t n ps =>
    obtain ⟨cs, e, lo, h1, h2⟩ := doBuildSlice_ok h
    refine ⟨cs, e, lo, h1, fun ρ w e' hx => ?_⟩
    have hp : PRel ρ (ps.toList.map fun p => (p.1, ev a p.2)) (ps.toList.map fun p => (p.1, e' p.2)) := PRel.of_map _ fun p hp => hx p.2 (by have := Array.mem_toList_iff.1 hp; simp [Op.operands]; exact ⟨p.1, this⟩)
    have e3 : (ps.map fun (i, x) => (i, e' x)) = ⟨ps.toList.map fun p => (p.1, e' p.2)⟩ := by apply Array.ext'; simp
    have := h2 ρ w _ hp
    rw [← e3] at this
    unfold execOp
    rw [ho]
    exact .of this
  case makeSlice t l c =>
    obtain ⟨cs, e, lo, h1, h2⟩ := doMakeSlice_ok h
    refine ⟨cs, e, lo, h1, fun ρ w e' hx => ?_⟩
    unfold execOp
    rw [ho]
    exact .of (h2 ρ w _ _ (hx l (by simp [Op.operands])) (hx c (by simp [Op.operands])))
  case convert src dst x =>
    dsimp only at h hk
    have hd : ∃ e, P.underlying dst = some (.slice e) := by
      cases hd : P.underlying dst with
      | none => rw [hd] at hk; cases hk
      | some d => rw [hd] at hk; cases d <;> first | (cases hk; done) | exact ⟨_, rfl⟩
    obtain ⟨e, hd⟩ := hd
    unfold doConvert at h
    rw [hd] at h
    dsimp only at h
    cases hv : ev a x <;> rw [hv] at h <;> first | (cases h; done) | skip
    rename_i bs
    dsimp only at h
    have hsrc : ∃ d, P.underlying src = some d := by
      cases hs : P.underlying src with
      | none => rw [hs] at h; cases h
      | some d => exact ⟨d, rfl⟩
    have h' : doToBytes P e bs s = .ok v s' := by
      obtain ⟨d, hs⟩ := hsrc
      rw [hs] at h
      exact h
    obtain ⟨cs, lo, h1, h2⟩ := doToBytes_ok h'
    refine ⟨cs, e, lo, h1, fun ρ w e' hx => ?_⟩
    have hx1 := hx x (by simp [Op.operands])
    rw [hv] at hx1
    have he : e' x = .string bs := by
      generalize e' x = y at hx1
      cases hx1; rfl
    unfold execOp
    rw [ho]
    show MadeN P ρ w s.next cs e lo v (do pure (Next.value (← convert src dst (e' x))))
    rw [he]
    exact h2 ρ w src dst hd hsrc
  case call c =>
    exfalso
    obtain ⟨callee, args, ts⟩ := c
    cases callee with
    | builtin bi => cases bi <;> cases hk
    | _ => cases hk
end
end Go.Proofs.YtdhkebolenbpiaaGreatDoor.X

namespace Go.Proofs.YtdhkebolenbpiaaGreatDoor.X
open Go.RowKit

def exCode : Ex → Code
  | .exit id => .exit id
  | .goto l => .goto l
  | _ => .ret
/-- Where a statement ends. -/
def Arr (P : Program) (m : Machine) (fb : Frame) (k : List Item) (cs : List Frame) : Ex → Act → World → Prop
  | .normal, A, w => Steps P m (lone (fb.atR A k) cs w)
  | .exit id, A, w => ∃ k1, exitTo id k1 = exitTo id k ∧ Steps P m (lone (fb.atR A (.code (.exit id) :: k1)) cs w)
  | .ret, A, w => ∃ k1, Steps P m (lone (fb.atR A (.code .ret :: k1)) cs w)
  | .goto _, _, _ => False
theorem Arr.of_steps {P : Program} {m m1 : Machine} {fb : Frame} {k : List Item} {cs : List Frame} {e : Ex} {A : Act} {w : World} (h : Steps P m m1) (h' : Arr P m1 fb k cs e A w) : Arr P m fb k cs e A w := by
  cases e with
  | normal => exact h.trans h'
  | exit id => obtain ⟨k1, h1, h2⟩ := h'; exact ⟨k1, h1, h.trans h2⟩
  | goto l => exact h'.elim
  | ret => obtain ⟨k1, h1⟩ := h'; exact ⟨k1, h.trans h1⟩
theorem Arr.pass {P : Program} {m : Machine} {fb : Frame} {x : Item} {k : List Item} {cs : List Frame} {e : Ex} {A : Act} {w : World} (hx : ∀ id, exitTo id (x :: k) = exitTo id k) (he : e ≠ .normal) (h : Arr P m fb (x :: k) cs e A w) : Arr P m fb k cs e A w := by
  cases e with
  | normal => exact absurd rfl he
  | exit id => obtain ⟨k1, h1, h2⟩ := h; exact ⟨k1, h1.trans (hx id), h2⟩
  | goto l => exact h.elim
  | ret => exact h

inductive DRel (ρ : Ren) : List Nat → List Deferred → Prop
  | nil : DRel ρ [] []
  | cons (i : Nat) (l : Loc) (d : List Nat) (ds : List Deferred) (h : ρ i = some l) (t : DRel ρ d ds) : DRel ρ (i :: d) ({ target := .collected l.blk, args := #[] } :: ds)
theorem DRel.mono {ρ ρ' : Ren} (k : ρ.Le ρ') : ∀ {d : List Nat} {ds : List Deferred}, DRel ρ d ds → DRel ρ' d ds
  | _, _, .nil => .nil
  | _, _, .cons i l d ds h t => .cons i l d ds (k _ _ h) (DRel.mono k t)
structure AcRel (ρ : Ren) (a : Ac) (A : Act) : Prop where
  size : A.tmps.size = a.n
  tmps : ∀ i, VRel ρ (ev a (.tmp i)) (A.tmps.getD i undef)
  defers : DRel ρ a.d A.defers
theorem AcRel.mono {ρ ρ' : Ren} (k : ρ.Le ρ') {a : Ac} {A : Act} (h : AcRel ρ a A) : AcRel ρ' a A := ⟨h.size, fun i => (h.tmps i).mono k, h.defers.mono k⟩
def RRel (ρ : Ren) : Option Nat → Option Nat → Prop
  | none, r => r = none
  | some l, r => ∃ k, ρ l = some k ∧ r = some k.blk
theorem RRel.mono {ρ ρ' : Ren} (k : ρ.Le ρ') {r r' : Option Nat} (h : RRel ρ r r') : RRel ρ' r r' := by
  cases r with
  | none => exact h
  | some l => obtain ⟨x, h1, h2⟩ := h; exact ⟨x, k _ _ h1, h2⟩

section
variable (P : Program) (G V : Nat)
def CodeOk (ih : Ih) : Prop := ∀ {fn : FuncId} {rnd : Option Nat} {c : Code} {a : Ac} {s : St} {e : Ex} {a2 : Ac} {s2 : St}, ih.code fn rnd c a s = .ok (e, a2) s2 →
  ∀ {b : Base} {ρ : Ren} {w : World} {A : Act} {rnd' : Option Nat}, (b.G, b.val) = (G, V) → WRel P b ρ s w → AcRel ρ a A → RRel ρ rnd rnd' →
  ∀ (fb : Frame) (k : List Item) (cs : List Frame), fb.fn = fn → fb.kind = .normal → fb.roundOf = rnd' →
  ∃ ρ' A' w', Ok P b ρ s ρ' s2 w' ∧ AcRel ρ' a2 A' ∧ Arr P (lone (fb.atR A (.code c :: k)) cs w) fb k cs e A' w'
def CallOk (ih : Ih) : Prop := ∀ {f : FuncId} {args : List Value} {s : St} {v : Value} {s2 : St}, ih.call f args s = .ok v s2 →
  ∀ {b : Base} {ρ : Ren} {w : World} {args' : List Value}, (b.G, b.val) = (G, V) → WRel P b ρ s w → LRel ρ args args' → ∀ cs : List Frame,
  ∃ ρ' v' w', Ok P b ρ s ρ' s2 w' ∧ VRel ρ' v v' ∧ ∃ fr, Steps P (lone (Frame.enter P f ⟨args'⟩ .normal) cs w) (lone fr cs w') ∧ fr.fn = f ∧ fr.leaving P w' (.returned v')
structure IhOk (ih : Ih) : Prop where
  code : CodeOk P G V ih
  call : CallOk P G V ih
end

/-- What an operation comes to. -/
def Gets (P : Program) (c : Frame) (cs : List Frame) (v' : Value) (w' : World) : Result Next → Prop
  | .ok (.value x) w1 => x = v' ∧ w1 = w'
  | .ok .skip w1 => v' = undef ∧ w1 = w'
  | .ok (.enter f args) w1 => ∃ fr, Steps P (lone (Frame.enter P f args .normal) (c :: cs) w1) (lone fr (c :: cs) w') ∧ fr.fn = f ∧ fr.leaving P w' (.returned v')
  | .ok (.round l f tmps assign body) w1 => Steps P (lone (Frame.round l f tmps assign body .normal) (c :: cs) w1) (lone (c.finish v') cs w')
  | _ => False

section
variable {P : Program} {b : Base} {ρ : Ren} {s : St} {w : World} {ih : Ih} {c : Frame} {cs : List Frame}
/-- An operation that may act. -/
def LOk (P : Program) (c : Frame) (cs : List Frame) (b : Base) (ρ : Ren) (s s' : St) (w : World) (v : Value) (x : Sem Next) : Prop := ∃ ρ' w' v', Ok P b ρ s ρ' s' w' ∧ VRel ρ' v v' ∧ Gets P c cs v' w' (x.run P w)
theorem LOk.of_e {s' : St} {v : Value} {x : Sem Value} (h : EOk P b ρ s s' w v x) : LOk P c cs b ρ s s' w v (do pure (Next.value (← x))) := by
  obtain ⟨ρ', w', v', h1, h2, h3⟩ := h
  exact ⟨ρ', w', v', h1, h2, by rw [run_v h3]; exact ⟨rfl, rfl⟩⟩
theorem LOk.of_n {v : Value} {x : Sem Next} (hw : WRel P b ρ s w) (h : NOk P ρ w v x) : LOk P c cs b ρ s s w v x := by
  obtain ⟨v', h1, h2⟩ := h
  exact ⟨ρ, w, v', .refl hw, h1, by rw [h2]; exact ⟨rfl, rfl⟩⟩

theorem undef_rel (ρ : Ren) : VRel ρ undef undef := .tuple _ _ .nil
theorem fold_tmps {n : Nat} : ∀ (ps : List (Tmp × Value)) (t : Tr Value) (ps' : List (Tmp × Value)) (A : Array Value), ps.map (·.1) = ps'.map (·.1) → (∀ i (h : i < ps.length) (h' : i < ps'.length), VRel ρ ps[i].2 ps'[i].2) → A.size = n →
    (∀ i, VRel ρ (match t.get i with | some v => v | none => undef) (A.getD i undef)) →
    (∀ i, VRel ρ (match (ps.foldl (fun t (p : Tmp × Value) => bif Nat.blt p.1 n then t.set p.1 p.2 else t) t).get i with | some v => v | none => undef) ((ps'.foldl (fun (A : Array Value) (p : Tmp × Value) => A.setIfInBounds p.1 p.2) A).getD i undef)) ∧
      (ps'.foldl (fun (A : Array Value) (p : Tmp × Value) => A.setIfInBounds p.1 p.2) A).size = n
  | [], t, ps', A, hk, _, hs, h => by
    cases ps' with
    | nil => exact ⟨h, hs⟩
    | cons _ _ => simp at hk
  | p :: ps, t, ps', A, hk, hv, hs, h => by
    cases ps' with
    | nil => simp at hk
    | cons q qs =>
      simp only [List.map_cons, List.cons.injEq] at hk
      simp only [List.foldl_cons]
      refine fold_tmps ps _ qs _ hk.2 (fun i h1 h2 => hv (i + 1) (by rw [List.length_cons]; omega) (by rw [List.length_cons]; omega)) (by simpa using hs) fun i => ?_
      have hv0 : VRel ρ p.2 q.2 := hv 0 (by simp) (by simp)
      rw [← hk.1]
      cases hb : Nat.blt p.1 n with
      | true =>
        have hlt : p.1 < n := Nat.le_of_ble_eq_true hb
        simp only [cond_true]
        rw [Tr.get_set]
        by_cases hi : i = p.1
        · subst hi
          rw [if_pos rfl]
          have : (A.setIfInBounds p.1 q.2).getD p.1 undef = q.2 := by simp [Array.getD, hs, hlt]
          rw [this]; exact hv0
        · rw [if_neg hi]
          have : (A.setIfInBounds p.1 q.2).getD i undef = A.getD i undef := by
            simp only [Array.getD_eq_getD_getElem?, Array.getElem?_setIfInBounds, if_neg (Ne.symm hi)]
          rw [this]; exact h i
      | false =>
        have hlt : n ≤ p.1 := Nat.le_of_not_lt fun h => by rw [show Nat.blt p.1 n = true from Nat.ble_eq_true_of_le h] at hb; cases hb
        have hA : A.size ≤ p.1 := by rw [hs]; exact hlt
        simp only [cond_false]
        have : A.setIfInBounds p.1 q.2 = A := by
          apply Array.ext_getElem?
          intro j
          rw [Array.getElem?_setIfInBounds]
          by_cases hj : p.1 = j
          · subst hj
            rw [if_pos rfl, if_neg (Nat.not_lt.2 hA), Array.getElem?_eq_none hA]
          · rw [if_neg hj]
        rw [this]; exact h i
theorem tree_get : ∀ (l : List Value) (k : Nat) (t : Tr Value) (i : Nat), (treeOf l k t).get i = if k ≤ i then (match l[i - k]? with | some v => some v | none => t.get i) else t.get i
  | [], k, t, i => by
    have : treeOf [] k t = t := rfl
    rw [this]; simp
  | v :: l, k, t, i => by
    have : treeOf (v :: l) k t = treeOf l (k + 1) (t.set k v) := rfl
    rw [this, tree_get l (k + 1) _ i, Tr.get_set]
    by_cases h1 : k + 1 ≤ i
    · have hne : i ≠ k := by omega
      have hle : k ≤ i := by omega
      rw [if_pos h1, if_neg hne, if_pos hle, show i - k = (i - (k + 1)) + 1 by omega, List.getElem?_cons_succ]
    · rw [if_neg h1]
      by_cases h2 : i = k
      · subst h2; simp
      · rw [if_neg h2, if_neg (by omega)]
theorem tree_rel {l l' : List Value} (h : LRel ρ l l') (n : Nat) (i : Nat) : VRel ρ (match (treeOf l 0 .nil).get i with | some v => v | none => undef) ((⟨l'⟩ ++ Array.replicate n undef : Array Value).getD i undef) := by
  rw [tree_get l 0 .nil i, if_pos (Nat.zero_le _), Nat.sub_zero]
  cases hi : l[i]? with
  | some v =>
    obtain ⟨v', h1, h2⟩ := h.get hi
    have hlt := (List.getElem?_eq_some_iff.1 h1).1
    have : (⟨l'⟩ ++ Array.replicate n undef : Array Value).getD i undef = v' := by
      rw [Array.getD_eq_getD_getElem?, Array.getElem?_append_left (by simpa using hlt)]
      simp [h1]
    rw [this]; exact h2
  | none =>
    have hge : l'.length ≤ i := by rw [← h.length]; exact List.getElem?_eq_none_iff.1 hi
    have : (⟨l'⟩ ++ Array.replicate n undef : Array Value).getD i undef = undef := by
      rw [Array.getD_eq_getD_getElem?, Array.getElem?_append_right (by simpa using hge), Array.getElem?_replicate]
      split <;> rfl
    rw [this]
    exact undef_rel ρ
end
end Go.Proofs.YtdhkebolenbpiaaGreatDoor.X

namespace Go.Proofs.YtdhkebolenbpiaaGreatDoor.X
open Go.RowKit

section
variable {P : Program} {b : Base} {ρ : Ren} {s : St} {w : World} {ih : Ih} {c : Frame} {cs : List Frame}

theorem loopOf_ok {l : Nat} {r : Loop} {k : Loc} (h : loopOf l s = some r) (hk : ρ l = some k) (hw : WRel P b ρ s w) : s.heap.get l = some (.obj (.loop r)) ∧ ∃ r', w.heap[k.blk]? = some (.loop r') ∧ LoopRel ρ r r' := by
  unfold loopOf at h
  cases hg : s.heap.get l with
  | none => rw [hg] at h; cases h
  | some o =>
    rw [hg] at h
    cases o <;> first | (cases h; done) | skip
    rename_i o
    cases o <;> first | (cases h; done) | skip
    injection h with h
    subst h
    obtain ⟨o', h1, _, r', rfl, h2⟩ := hw.heap _ _ _ hg (by simp) hk
    exact ⟨rfl, r', h1, h2⟩
theorem run_getLoop {g : Nat} {r : Loop} (h : w.heap[g]? = some (.loop r)) : (Instr.getLoop g).run P w = .ok r w := by
  simp [Instr.getLoop, getObj, Sem.run, h]
theorem run_setLoop {g : Nat} {r : Loop} (h : w.heap[g]? = some (.loop r)) (o : Obj) : (setObj g o).run P w = .ok () (setBlk w g o) := by
  simp [setObj, Sem.run, h, setBlk]
theorem liftR_ok {α β : Type} {r : Rs α} {k : α → St → Rs β} {v : β} {s' : St} (h : liftR r k = .ok v s') : ∃ a s1, r = .ok a s1 ∧ k a s1 = .ok v s' := by
  cases r with
  | ok a s1 => exact ⟨a, s1, rfl, h⟩
  | no _ _ => cases h

theorem doRound_ok (hih : IhOk P b.G b.val ih) {l : Nat} {args args' : List Value} {v : Value} {s' : St} {k : Loc} (h : doRound b.G ih l args s = .ok v s') (hl : ρ l = some k) (ha : LRel ρ args args') (hw : WRel P b ρ s w) :
    LOk P c cs b ρ s s' w v (Instr.yield k.blk ⟨args'⟩) := by
  unfold doRound at h
  cases hG : Nat.ble b.G l with
  | false => rw [hG] at h; cases h
  | true =>
    rw [hG] at h
    simp only [Bool.not_true, cond_false] at h
    have hG := Nat.le_of_ble_eq_true hG
    obtain ⟨r, hr, h⟩ := ofO_ok h
    obtain ⟨hg, r', h1, hrr⟩ := loopOf_ok hr hl hw
    cases hsz : Nat.beq (lenL args) (lenL r.params.toList) with
    | false => rw [hsz] at h; cases h
    | true =>
      rw [hsz] at h
      simp only [Bool.not_true, cond_false] at h
      have hsz := Nat.eq_of_beq_eq_true hsz
      rw [lenL_eq, lenL_eq] at hsz
      obtain ⟨⟨e1, ac⟩, s1, hc1, h⟩ := liftR_ok h
      cases e1 <;> first | (cases h; done) | skip
      obtain ⟨r2, hr2, h⟩ := ofO_ok h
      -- the variables of a round
      have hlen := ha.length
      have hps : r'.params.size = args'.length := by
        rw [hrr.params, ← hlen, hsz]; exact Array.length_toList.symm
      have hfold : (r'.params.zip ⟨args'⟩).foldl (fun (tmps : Array Value) (x : Tmp × Value) => tmps.setIfInBounds x.1 x.2) r'.tmps = (r.params.toList.zip args').foldl (fun (A : Array Value) (p : Tmp × Value) => A.setIfInBounds p.1 p.2) r'.tmps := by
        rw [← Array.foldl_toList, Array.toList_zip, hrr.params]
      have htz : r'.tmps.size = r.tmps.size := by
        have := hrr.tmps.length
        simpa using this.symm
      obtain ⟨f1, f2⟩ := fold_tmps (ρ := ρ) (n := r.tmps.size) (r.params.toList.zip args) (treeOf r.tmps.toList 0 .nil) (r.params.toList.zip args') r'.tmps
        (by rw [List.map_fst_zip (by omega), List.map_fst_zip (by omega)])
        (fun i h1 h2 => by
          have hi : i < args.length := by rw [List.length_zip] at h1; omega
          have hi' : i < args'.length := by omega
          obtain ⟨v', g1, g2⟩ := ha.get (List.getElem?_eq_getElem hi)
          have : args'[i] = v' := by rw [List.getElem?_eq_getElem hi'] at g1; exact Option.some.inj g1
          simp only [List.getElem_zip, this]
          exact g2)
        htz (fun i => by
          have := tree_rel (l' := r'.tmps.toList) hrr.tmps 0 i
          simpa using this)
      have hac : AcRel ρ { n := r.tmps.size, t := (r.params.toList.zip args).foldl (fun t (p : Tmp × Value) => bif Nat.blt p.1 r.tmps.size then t.set p.1 p.2 else t) (treeOf r.tmps.toList 0 .nil), d := [] } ⟨(r.params.toList.zip args').foldl (fun (A : Array Value) (p : Tmp × Value) => A.setIfInBounds p.1 p.2) r'.tmps, []⟩ := ⟨f2, f1, .nil⟩
      let fb : Frame := { (default : Frame) with fn := r.fn, kind := .normal, roundOf := some k.blk }
      obtain ⟨ρ1, A1, w1, o1, a1, g1⟩ := hih.code hc1 rfl hw hac (rnd' := some k.blk) ⟨k, hl, rfl⟩ fb [.beginRound, .code r.body] (c :: cs) rfl rfl rfl
      have hl1 := o1.le hw _ _ hl
      obtain ⟨hg2, r2', h2, hrr2⟩ := loopOf_ok hr2 hl1 o1.rel
      cases hst : r2.state <;> rw [hst] at h <;> first | (cases h; done) | skip
      obtain ⟨⟨e2, ac2⟩, s2, hc2, h⟩ := liftR_ok h
      dsimp only at h
      cases hd : ac2.d with
      | cons _ _ => rw [hd] at h; cases h
      | nil =>
        rw [hd] at h
        dsimp only at h
        obtain ⟨r3, hr3, h⟩ := ofO_ok h
        have hb : OORel ρ1 (.loop { r2 with state := .busy }) (.loop { r2' with state := .busy }) := ⟨_, rfl, { hrr2 with state := rfl }⟩
        have o2 := setObj_ok o1.rel hg2 hl1 hG hb
        obtain ⟨ρ3, A3, w3, o3, a3, g3⟩ := hih.code hc2 rfl o2.rel a1 (rnd' := some k.blk) ⟨k, hl1, rfl⟩ fb [] (c :: cs) rfl rfl rfl
        have hl3 := o3.le o2.rel _ _ hl1
        obtain ⟨hg3, r3', h3, hrr3⟩ := loopOf_ok hr3 hl3 o3.rel
        have o123 := (o1.trans o2).trans o3
        -- the steps up to the body's end
        have hbegin : (Instr.beginRound k.blk).run P w1 = .ok () (setBlk w1 k.blk (.loop { r2' with state := .busy })) := by
          simp [Instr.beginRound, run_getLoop h2, run_setLoop h2, hrr2.state, hst]
        have hyield : (Instr.yield k.blk ⟨args'⟩).run P w = .ok (.round k.blk r'.fn ((r.params.toList.zip args').foldl (fun (A : Array Value) (p : Tmp × Value) => A.setIfInBounds p.1 p.2) r'.tmps) r'.assign r'.body) w := by
          have hne : ¬ ((⟨args'⟩ : Array Value).size ≠ r'.params.size) := by show ¬ (args'.length ≠ r'.params.size); omega
          simp only [Instr.yield, Sem.run_bind, run_getLoop h1, Result.andThen_ok]
          rw [if_neg hne]
          simp only [Sem.run_pure]
          rw [← hfold]
        have hsteps : ∃ k1 A, (match e2 with | .normal => A = A3 | _ => A = A3) ∧
            Steps P (lone (Frame.round k.blk r'.fn ((r.params.toList.zip args').foldl (fun (A : Array Value) (p : Tmp × Value) => A.setIfInBounds p.1 p.2) r'.tmps) r'.assign r'.body .normal) (c :: cs) w)
              (lone (fb.atR A3 k1) (c :: cs) w3) ∧ (match e2 with | .normal => k1 = [] | .ret => ∃ k2, k1 = .code .ret :: k2 | .exit id => ∃ k2, k1 = .code (.exit id) :: k2 ∧ exitTo id k2 = none | .goto _ => False) := by
          have g2 : Steps P (lone (fb.atR A1 [.beginRound, .code r.body]) (c :: cs) w1) (lone (fb.atR A1 [.code r.body]) (c :: cs) (setBlk w1 k.blk (.loop { r2' with state := .busy }))) := .one (stepR_beginRound rfl hbegin)
          have g0 : lone (Frame.round k.blk r'.fn ((r.params.toList.zip args').foldl (fun (A : Array Value) (p : Tmp × Value) => A.setIfInBounds p.1 p.2) r'.tmps) r'.assign r'.body .normal) (c :: cs) w = lone (fb.atR ⟨(r.params.toList.zip args').foldl (fun (A : Array Value) (p : Tmp × Value) => A.setIfInBounds p.1 p.2) r'.tmps, []⟩ [.code r.assign, .beginRound, .code r.body]) (c :: cs) w := by
            rw [hrr.fn, hrr.assign, hrr.body]; rfl
          rw [g0]
          have g12 := Steps.trans g1 g2
          cases e2 with
          | normal => exact ⟨[], A3, rfl, g12.trans g3, rfl⟩
          | ret => obtain ⟨k2, g4⟩ := g3; exact ⟨_, A3, rfl, g12.trans g4, k2, rfl⟩
          | exit id => obtain ⟨k2, g5, g4⟩ := g3; exact ⟨_, A3, rfl, g12.trans g4, k2, rfl, g5⟩
          | goto l => exact g3.elim
        have fin : ∀ (jump : Option Code), (match e2 with | .normal => jump = none | .ret => jump = some .ret | .exit id => jump = some (.exit id) | .goto _ => False) →
            v = .bool jump.isNone → s' = setLoop s2 l { r3 with state := if jump.isNone then .ready else .done, pending := jump } → LOk P c cs b ρ s s' w v (Instr.yield k.blk ⟨args'⟩) := by
          intro jump hj hv hs'
          subst hv; subst hs'
          have hb3 : OORel ρ3 (.loop { r3 with state := if jump.isNone then .ready else .done, pending := jump }) (.loop { r3' with state := if jump.isNone then .ready else .done, pending := jump }) := ⟨_, rfl, { hrr3 with state := rfl, pending := rfl }⟩
          have o4 := setObj_ok o3.rel hg3 hl3 hG hb3
          have hend : (Instr.endRound k.blk jump).run P w3 = .ok (.bool jump.isNone) (setBlk w3 k.blk (.loop { r3' with state := if jump.isNone then .ready else .done, pending := jump })) := by
            simp only [Instr.endRound, Sem.run_bind, run_getLoop h3, Result.andThen_ok, run_setLoop h3, Sem.run_pure]
          refine ⟨ρ3, _, .bool jump.isNone, o123.trans o4, .bool _, ?_⟩
          rw [hyield]
          obtain ⟨k1, A, _, g1, g2⟩ := hsteps
          show Steps P _ _
          refine g1.trans (.one ?_)
          cases e2 with
          | normal =>
            rw [hj] at hend ⊢
            rw [g2]
            exact stepR_round_end rfl rfl hend
          | ret =>
            rw [hj] at hend ⊢
            obtain ⟨k2, g2⟩ := g2
            rw [g2]
            exact stepR_round_ret rfl rfl hend
          | exit id =>
            rw [hj] at hend ⊢
            obtain ⟨k2, g2, g3⟩ := g2
            rw [g2]
            exact stepR_round_exit rfl rfl g3 hend
          | goto l => exact hj.elim
        cases e2 with
        | normal => injection h with q1 q2; exact fin none rfl q1.symm (by rw [← q2]; rfl)
        | ret => injection h with q1 q2; exact fin (some .ret) rfl q1.symm (by rw [← q2]; rfl)
        | exit id => injection h with q1 q2; exact fin (some (.exit id)) rfl q1.symm (by rw [← q2]; rfl)
        | goto l => cases h
end
end Go.Proofs.YtdhkebolenbpiaaGreatDoor.X
