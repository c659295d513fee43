/- A runner for closed calls, part 9: Zc Zd Ze Zf Zg Zh Zi Zj. -/
import Derived.Test.YtdhkebolenbpiaaGreatDoorKnh
import Derived.Shelf.Unicode.DecodeSlow
namespace Go.Proofs.YtdhkebolenbpiaaGreatDoor.X
open Go.RowKit

section
variable {P : Program} {ih : Ih} {ops : Array Oper} {pre : List Nat} {b : Base} {ρ0 : Ren} {s0 : St} {a0 : Ac}

def EntOk (P : Program) (b : Base) (ih : Ih) (ops : Array Oper) (n0 : Nat) (p : List Pend) (ρ : Ren) (s : St) (e : Ent) : Prop :=
  opKind P e.o ≠ 3 ∧ (wants ops.toList e.a e.o = false → e.v = undef ∧ e.id = none) ∧
  (wants ops.toList e.a e.o = true →
    (opKind P e.o = 0 → e.id = none ∧ ∃ s1 s2, oper P b.G ih e.a e.o s1 = .ok e.v s2) ∧
    (opKind P e.o = 1 → e.id = none ∧ (⟨e.i, e.o, e.a, e.v⟩ : Pend) ∈ p) ∧
    (opKind P e.o = 2 → ∃ id cs el lo, e.id = some id ∧ (∀ (ρ : Ren) (w : World) (e' : Operand → Value), OpsRel ρ e.a e' e.o → MadeN P ρ w id cs el lo e.v (execOp e' e.o)) ∧ ρ id = none ∧ id < s.next ∧ n0 ≤ id ∧ s.heap.get id = some (.row cs el lo)))
structure Bd (P : Program) (ih : Ih) (ops : Array Oper) (pre : List Nat) (b : Base) (ρ0 : Ren) (s0 : St) (a0 : Ac) (L : Nat → Bool) (H : List Ent) (p : List Pend) (a : Ac) (s : St) (ρ : Ren) (w : World) (A : Act) : Prop where
  ok : Ok P b ρ0 s0 ρ s w
  hok : HOk ops pre a0 H
  env : EnvOk a0 H a
  closed : Closed ops L
  sub : ∀ i, L i = true → ∃ e ∈ H, e.i = i
  size : A.tmps.size = a0.n
  tmps : ∀ d, VRel ρ (cur L a0 H d) (A.tmps.getD d undef)
  defers : DRel ρ a0.d A.defers
  ent : ∀ e ∈ H, L e.i = false → EntOk P b ih ops s0.next p ρ s e
  ids : ∀ e ∈ H, ∀ k, e.id = some k → k < s.next
  G0 : b.G ≤ s0.next

theorem WRel.later {ρ : Ren} {s : St} {w : World} (h : WRel P b ρ s w) (cs : List Value) (e : TypeId) (lo : Bool) : WRel P b ρ (newS cs e lo s) w := by
  have hn : ρ s.next = none := by
    cases hk : ρ s.next with
    | none => rfl
    | some l => exact absurd (h.dom _ _ hk) (Nat.lt_irrefl _)
  have key : ∀ i o l, (newS cs e lo s).heap.get i = some o → ρ i = some l → s.heap.get i = some o := fun i o l hi hl => by
    unfold newS at hi
    dsimp only at hi
    rw [Tr.get_set, if_neg] at hi
    · exact hi
    · rintro rfl; rw [hn] at hl; cases hl
  refine ⟨fun i o l hi hd hl => h.heap i o l (key i o l hi hl) hd hl, fun i j o o' l l' hne hi hd hj hd' hl hl' => h.inj i j o o' l l' hne (key i o l hi hl) hd (key j o' l' hj hl') hd' hl hl', fun i l hl => Nat.lt_succ_of_lt (h.dom i l hl), fun i hi => ?_, h.low, h.glob, Nat.le_succ_of_le h.base, h.size, h.below, fun i o l hG hi hd hl => h.apart i o l hG (key i o l hi hl) hd hl, h.kept⟩
  unfold newS at hi ⊢
  dsimp only at hi ⊢
  rw [Tr.get_set, if_neg (by omega)]
  exact h.fresh i (by omega)
theorem WRel.realize {ρ : Ren} {s : St} {w : World} (h : WRel P b ρ s w) {id cap : Nat} {cs : List Value} {e : TypeId} {lo : Bool} {o' : Obj} (hg : s.heap.get id = some (.row cs e lo)) (hn : ρ id = none) (hlt : id < s.next) (hG : b.G ≤ id)
    (ho : ∀ ρ' : Ren, ρ.Le ρ' → ρ' id = some ⟨w.heap.size, 0, cap⟩ → ORel P ρ' ⟨w.heap.size, 0, cap⟩ (.row cs e lo) o') : WRel P b (ρ.upd id ⟨w.heap.size, 0, cap⟩) s (w.alloc o') := by
  have hle : ρ.Le (ρ.upd id ⟨w.heap.size, 0, cap⟩) := fun i l hl => by
    rw [upd_ne]
    · exact hl
    · rintro rfl; rw [hn] at hl; cases hl
  have hup := upd_self ρ id ⟨w.heap.size, 0, cap⟩
  have hold : ∀ i l, ρ i = some l → ∀ o, s.heap.get i = some o → o ≠ .dead → l.blk < w.heap.size := fun i l hl o hi hd => by
    obtain ⟨x, hx, _⟩ := h.heap i o l hi hd hl
    exact (Array.getElem?_eq_some_iff.1 hx).1
  refine ⟨fun j p k hj hp hk => ?_, fun j j' p p' k k' hne hj hp hj' hp' hk hk' => ?_, fun i l hl => ?_, h.fresh, fun i l hi hl => ?_, fun g hg' => ?_, h.base, ?_, h.below.alloc h.size o', fun j p k hjG hj hp hk => ?_, h.kept_alloc o'⟩
  · by_cases he : j = id
    · subst he
      rw [hg] at hj
      rw [hup] at hk
      injection hj with hj; injection hk with hk
      subst hj; subst hk
      exact ⟨o', heap_alloc_new w o', ho _ hle hup⟩
    · rw [upd_ne _ _ he] at hk
      obtain ⟨x, hx, hr⟩ := h.heap j p k hj hp hk
      exact ⟨x, (Below.heap_alloc w o' _ (hold j k hk p hj hp)).trans hx, hr.mono hle⟩
  · by_cases he : j = id
    · subst he
      rw [hup] at hk
      injection hk with hk
      subst hk
      have hne' : j' ≠ j := fun e => hne e.symm
      rw [upd_ne _ _ hne'] at hk'
      have := hold j' k' hk' p' hj' hp'
      dsimp only; omega
    · rw [upd_ne _ _ he] at hk
      by_cases he' : j' = id
      · subst he'
        rw [hup] at hk'
        injection hk' with hk'
        subst hk'
        have := hold j k hk p hj hp
        dsimp only; omega
      · rw [upd_ne _ _ he'] at hk'
        exact h.inj j j' p p' k k' hne hj hp hj' hp' hk hk'
  · by_cases he : i = id
    · subst he; exact hlt
    · rw [upd_ne _ _ he] at hl; exact h.dom i l hl
  · by_cases he : i = id
    · subst he; rw [hup] at hl; injection hl with hl; subst hl; exact h.size
    · rw [upd_ne _ _ he] at hl; exact h.low i l hi hl
  · rw [upd_ne _ _ (by omega)]; exact h.glob g hg'
  · have := h.size; simp; omega
  · by_cases he : j = id
    · subst he
      rw [hup] at hk
      injection hk with hk
      subst hk
      intro hpk
      have := h.kept_lt hpk
      dsimp only at this
      omega
    · rw [upd_ne _ _ he] at hk
      exact h.apart j p k hjG hj hp hk

theorem EntOk.mono {n0 : Nat} {p p' : List Pend} {ρ ρ' : Ren} {s s' : St} {e : Ent} (h : EntOk P b ih ops n0 p ρ s e) (hp : ∀ q ∈ p, q.i = e.i → q ∈ p') (hs : ∀ k, e.id = some k → ρ k = none → k < s.next → ρ' k = none ∧ k < s'.next ∧ s'.heap.get k = s.heap.get k) : EntOk P b ih ops n0 p' ρ' s' e := by
  refine ⟨h.1, h.2.1, fun hw => ?_⟩
  obtain ⟨h0, h1, h2⟩ := h.2.2 hw
  refine ⟨h0, fun hk => ⟨(h1 hk).1, hp _ (h1 hk).2 rfl⟩, fun hk => ?_⟩
  obtain ⟨id, cs, el, lo, e1, e2, e3, e4, e5, e6⟩ := h2 hk
  obtain ⟨g1, g2, g3⟩ := hs id e1 e3 e4
  exact ⟨id, cs, el, lo, e1, e2, g1, g2, e5, g3.trans e6⟩

/-- Quiet operations, ahead of the machine. -/
theorem quiet_stage {L : Nat → Bool} {ρ : Ren} {w : World} {A : Act} {rem : List Nat} : ∀ (qs : List Nat) {H : List Ent} {p : List Pend} {a : Ac} {s : St} {p2 : List Pend} {a2 : Ac} {s2 : St}, quietRun P b.G ih ops.toList qs p a s = .ok (p2, a2) s2 →
    Bd P ih ops pre b ρ0 s0 a0 L H p a s ρ w A → (∀ x ∈ H, ∀ i ∈ qs ++ rem, i ≠ x.i ∧ inPre pre i x.i = false) → ordOk pre (qs ++ rem) = true → (∀ i ∈ qs, ∀ o, ops[i]? = some o → opKind P o ≠ 3) → (∀ i ∈ qs, L i = false) →
    ∃ H2, Bd P ih ops pre b ρ0 s0 a0 L H2 p2 a2 s2 ρ w A ∧ (∀ x ∈ H2, ∀ i ∈ rem, i ≠ x.i ∧ inPre pre i x.i = false) ∧ (∀ e ∈ H, e ∈ H2) ∧ (∀ i ∈ qs, ∃ e ∈ H2, e.i = i)
  | [], H, p, a, s, p2, a2, s2, h, hB, hR, ho, hk, hL => by
    injection h with h1 h2
    injection h1 with h1 h3
    subst h1; subst h2; subst h3
    exact ⟨H, hB, by simpa using hR, fun _ h => h, fun _ h => by cases h⟩
  | i :: qs, H, p, a, s, p2, a2, s2, h, hB, hR, ho, hk, hL => by
    have h' : (match nth ops.toList i with
      | none => Rs.no 139 0
      | some o => bif wants ops.toList a o then liftR (oper P b.G ih a o s) fun v s1 => quietRun P b.G ih ops.toList qs (bif Nat.beq (opKind P o) 1 then ⟨i, o, a, v⟩ :: p else p) (put a o.dst v) (bif Nat.ble (opKind P o) 1 then s else s1) else quietRun P b.G ih ops.toList qs p (put a o.dst undef) s) = .ok (p2, a2) s2 := h
    rw [nth_eq] at h'
    cases hoi : ops.toList[i]? with
    | none => rw [hoi] at h'; cases h'
    | some o =>
      rw [hoi] at h'
      dsimp only at h'
      have hoi' : ops[i]? = some o := by simpa using hoi
      have hk3 := hk i (by simp) o hoi'
      have hLi := hL i (by simp)
      have ho' : ((qs ++ rem).all fun x => x != i && !inPre pre x i) = true ∧ ordOk pre (qs ++ rem) = true := by
        have : ordOk pre (i :: (qs ++ rem)) = true := ho
        unfold ordOk at this
        simpa only [Bool.and_eq_true] using this
      have hRi : ∀ x ∈ qs ++ rem, x ≠ i ∧ inPre pre x i = false := fun x hx => by
        have := (List.all_eq_true.1 ho'.1) x hx
        simpa using this
      -- the next one
      have next : ∀ (v : Value) (id : Option Nat) (p1 : List Pend) (s1 : St), Bd P ih ops pre b ρ0 s0 a0 L (⟨i, o, a, v, id⟩ :: H) p1 (put a o.dst v) s1 ρ w A → quietRun P b.G ih ops.toList qs p1 (put a o.dst v) s1 = .ok (p2, a2) s2 →
          ∃ H2, Bd P ih ops pre b ρ0 s0 a0 L H2 p2 a2 s2 ρ w A ∧ (∀ x ∈ H2, ∀ i ∈ rem, i ≠ x.i ∧ inPre pre i x.i = false) ∧ (∀ e ∈ H, e ∈ H2) ∧ (∀ j ∈ i :: qs, ∃ e ∈ H2, e.i = j) := by
        intro v id p1 s1 hB1 hrun
        obtain ⟨H2, g1, g2, g3, g4⟩ := quiet_stage qs hrun hB1 (fun x hx j hj => by
          rcases List.mem_cons.1 hx with rfl | hx
          · exact hRi j hj
          · exact hR x hx j (by simp only [List.cons_append]; exact List.mem_cons_of_mem _ hj)) ho'.2 (fun j hj => hk j (by simp [hj])) (fun j hj => hL j (by simp [hj]))
        refine ⟨H2, g1, g2, fun e he => g3 e (by simp [he]), fun j hj => ?_⟩
        rcases List.mem_cons.1 hj with rfl | hj
        · exact ⟨⟨_, o, a, v, id⟩, g3 _ List.mem_cons_self, rfl⟩
        · exact g4 j hj
      -- what stays
      have base : ∀ (v : Value) (id : Option Nat) (p1 : List Pend) (s1 : St), Ok P b ρ0 s0 ρ s1 w → (∀ q ∈ p, q ∈ p1) → (∀ k, k < s.next → s1.heap.get k = s.heap.get k) → s.next ≤ s1.next → (∀ k, id = some k → s.next ≤ k ∧ k < s1.next) →
          EntOk P b ih ops s0.next p1 ρ s1 ⟨i, o, a, v, id⟩ → Bd P ih ops pre b ρ0 s0 a0 L (⟨i, o, a, v, id⟩ :: H) p1 (put a o.dst v) s1 ρ w A := by
        intro v id p1 s1 hok hp hs hn hid hent
        refine ⟨hok, ⟨hoi', fun x hx => ?_, hB.env, fun k hk x hx he => ?_, hB.hok⟩, env_put hB.env i o a v id, hB.closed, fun j hj => ?_, hB.size, fun d => ?_, hB.defers, fun e he hl => ?_, fun e he k hk => ?_, hB.G0⟩
        · have := hR x hx i (by simp)
          exact ⟨this.1.symm, this.2⟩
        · have h1 := hB.ids x hx k he
          have h2 := (hid k hk).1
          omega
        · obtain ⟨e, he, h1⟩ := hB.sub j hj
          exact ⟨e, by simp [he], h1⟩
        · rw [cur_cons, if_neg (by rw [hLi]; simp)]
          exact hB.tmps d
        · rcases List.mem_cons.1 he with rfl | he
          · exact hent
          · exact (hB.ent e he hl).mono (fun q hq _ => hp q hq) fun k hk h1 h2 => ⟨h1, by omega, hs k h2⟩
        · rcases List.mem_cons.1 he with rfl | he
          · exact (hid k hk).2
          · have := hB.ids e he k hk; omega
      cases hwb : wants ops.toList a o with
      | false =>
        rw [hwb] at h'
        exact next undef none p s (base undef none p s hB.ok (fun _ h => h) (fun _ _ => rfl) (Nat.le_refl _) (fun _ h => by cases h) ⟨hk3, fun _ => ⟨rfl, rfl⟩, fun hw => by rw [hwb] at hw; cases hw⟩) h'
      | true =>
        rw [hwb] at h'
        simp only [cond_true] at h'
        obtain ⟨v, s1, h1, h2⟩ := liftR_ok h'
        have hkk : opKind P o = 0 ∨ opKind P o = 1 ∨ opKind P o = 2 := by
          have : opKind P o = 0 ∨ opKind P o = 1 ∨ opKind P o = 2 ∨ opKind P o = 3 := by
            unfold opKind
            repeat' split
            all_goals simp
          rcases this with h | h | h | h
          · exact .inl h
          · exact .inr (.inl h)
          · exact .inr (.inr h)
          · exact absurd h hk3
        rcases hkk with hk0 | hk1 | hk2
        · rw [hk0] at h2
          refine next v none p s (base v none p s hB.ok (fun _ h => h) (fun _ _ => rfl) (Nat.le_refl _) (fun _ h => by cases h) ⟨hk3, fun hw => ?_, fun _ => ⟨fun _ => ⟨rfl, s, s1, h1⟩, fun h => ?_, fun h => ?_⟩⟩) h2
          · dsimp only at hw; rw [hwb] at hw; cases hw
          · dsimp only at h; rw [hk0] at h; cases h
          · dsimp only at h; rw [hk0] at h; cases h
        · rw [hk1] at h2
          refine next v none (⟨i, o, a, v⟩ :: p) s (base v none _ s hB.ok (fun _ h => List.mem_cons_of_mem _ h) (fun _ _ => rfl) (Nat.le_refl _) (fun _ h => by cases h) ⟨hk3, fun hw => ?_, fun _ => ⟨fun h => ?_, fun _ => ⟨rfl, by simp⟩, fun h => ?_⟩⟩) h2
          · dsimp only at hw; rw [hwb] at hw; cases hw
          · dsimp only at h; rw [hk1] at h; cases h
          · dsimp only at h; rw [hk1] at h; cases h
        · rw [hk2] at h2
          obtain ⟨cs, el, lo, rfl, hm⟩ := made_ok hk2 h1
          have hnone : ρ s.next = none := by
            cases hq : ρ s.next with
            | none => rfl
            | some l => exact absurd (hB.ok.rel.dom _ _ hq) (Nat.lt_irrefl _)
          have hget : ∀ k, k < s.next → (newS cs el lo s).heap.get k = s.heap.get k := fun k hk => by
            unfold newS; dsimp only; rw [Tr.get_set, if_neg (by omega)]
          have hnn : s0.next ≤ s.next := hB.ok.next
          have hok : Ok P b ρ0 s0 ρ (newS cs el lo s) w := ⟨hB.ok.ext, Nat.le_succ_of_le hB.ok.next, fun j hj hn => (hget j (by omega)).trans (hB.ok.pend j hj hn), hB.ok.rel.later cs el lo⟩
          refine next v (some s.next) p (newS cs el lo s) (base v (some s.next) p _ hok (fun _ h => h) hget (Nat.le_succ _) (fun k hk => ?_) ⟨hk3, fun hw => ?_, fun _ => ⟨fun h => ?_, fun h => ?_, fun _ => ⟨s.next, cs, el, lo, rfl, hm, hnone, Nat.lt_succ_self _, hnn, ?_⟩⟩⟩) h2
          · injection hk with hk; subst hk; exact ⟨Nat.le_refl _, Nat.lt_succ_self _⟩
          · dsimp only at hw; rw [hwb] at hw; cases hw
          · dsimp only at h; rw [hk2] at h; cases h
          · dsimp only at h; rw [hk2] at h; cases h
          · unfold newS; dsimp only; rw [Tr.get_set, if_pos rfl]
end
end Go.Proofs.YtdhkebolenbpiaaGreatDoor.X

namespace Go.Proofs.YtdhkebolenbpiaaGreatDoor.X
open Go.RowKit

section
variable {P : Program} {ih : Ih} {ops : Array Oper} {pre : List Nat} {b : Base} {ρ0 : Ren} {s0 : St} {a0 : Ac}

theorem recheck_mem {s : St} : ∀ {p : List Pend}, recheck P b.G ih s p = true → ∀ q ∈ p, ∃ s', oper P b.G ih q.a q.o s = .ok q.v s'
  | [], _, _, h => by cases h
  | q0 :: p, h, q, hq => by
    have h' : (match oper P b.G ih q0.a q0.o s with | .ok v _ => same v q0.v && recheck P b.G ih s p | .no .. => false) = true := h
    cases hr : oper P b.G ih q0.a q0.o s with
    | no _ _ => rw [hr] at h'; cases h'
    | ok v s' =>
      rw [hr] at h'
      simp only [Bool.and_eq_true] at h'
      rcases List.mem_cons.1 hq with rfl | hq
      · have := same_eq h'.1
        subst this
        exact ⟨s', hr⟩
      · exact recheck_mem h'.2 q hq
theorem HOk.ids {k : Nat} : ∀ {H : List Ent}, HOk ops pre a0 H → ∀ x ∈ H, ∀ y ∈ H, x.i ≠ y.i → x.id = some k → y.id ≠ some k
  | [], _, _, h, _, _, _, _ => by cases h
  | e :: H, h, x, hx, y, hy, hne, hk => by
    rcases List.mem_cons.1 hx with rfl | hx2
    · rcases List.mem_cons.1 hy with rfl | hy2
      · exact absurd rfl hne
      · exact h.2.2.2.1 k hk y hy2
    · rcases List.mem_cons.1 hy with rfl | hy2
      · exact fun hyk => h.2.2.2.1 k hyk x hx2 hk
      · exact HOk.ids h.2.2.2.2 x hx2 y hy2 hne hk
theorem looks_op {x : Operand} {o : Oper} {t : Nat} (hx : x ∈ o.op.operands.toList) (ht : x = .tmp t) : t ∈ looks ops.toList o := by
  subst ht
  unfold looks
  refine List.mem_append_left _ (List.mem_filterMap.2 ⟨_, hx, rfl⟩)
theorem looks_guard {o g : Oper} {j d : Nat} {want : Bool} (hg : o.guard = some (j, want)) (hj : ops[j]? = some g) (hd : g.dst = some d) : d ∈ looks ops.toList o := by
  unfold looks
  refine List.mem_append_right _ ?_
  rw [hg]
  have : ops.toList[j]? = some g := by simpa using hj
  simp [this, hd]
/-- Operands, by what they look at. -/
theorem ops_rel {ρ : Ren} {s : St} {w : World} {a : Ac} {A : Act} {o : Oper} (hw : WRel P b ρ s w) (hreg : regOk b.G ops.toList = true) (ho : o ∈ ops.toList) (h : ∀ d ∈ looks ops.toList o, VRel ρ (ev a (.tmp d)) (A.tmps.getD d undef)) : OpsRel ρ a A.eval o := by
  intro x hx
  cases x with
  | tmp t => exact h t (looks_op hx rfl)
  | const v => exact flat_refl ρ (regOk_ops hreg ho _ hx)
  | global g =>
    have hlt : g + 1 < b.G := Nat.le_of_ble_eq_true (regOk_ops hreg ho _ hx)
    exact .ptr _ _ ⟨rfl, _, hw.globU hlt, by simp⟩
  | func f => exact .func _ _ _ _ _ _ rfl .nil .nil

variable {L L' : Nat → Bool} {H : List Ent} {p : List Pend} {a : Ac} {s : St} {ρ : Ren} {w : World} {A : Act}
theorem closed_set {i : Nat} {o : Oper} (hc : Closed ops L) (ho : ops[i]? = some o) (hr : ∀ x ∈ o.after, Region.binds .any x = true → L x.on = true) (hL : ∀ j, L' j = (L j || j == i)) : Closed ops L' := by
  intro j o2 e ho2 hj he hb
  rw [hL] at hj ⊢
  cases hlj : L j with
  | true => rw [hc j o2 e ho2 hlj he hb]; rfl
  | false =>
    rw [hlj, Bool.false_or] at hj
    have := eq_of_beq hj
    subst this
    rw [ho] at ho2
    injection ho2 with ho2
    subst ho2
    rw [hr e he hb]; rfl
theorem put_getD (T : Array Value) (n : Nat) (hT : T.size = n) (dst : Option Tmp) (v : Value) (ds : List Deferred) (d : Nat) : ((Act.mk T ds).put dst v).tmps.getD d undef = if dst = some d ∧ d < n then v else T.getD d undef := by
  cases dst with
  | none => simp [Act.put]
  | some d0 =>
    unfold Act.put
    dsimp only
    by_cases h : d0 = d
    · subst h
      by_cases hl : d0 < n
      · rw [if_pos ⟨rfl, hl⟩]
        have : d0 < T.size := by rw [hT]; exact hl
        simp [Array.getD, this]
      · rw [if_neg (fun h => hl h.2)]
        have h1 : ¬ d0 < T.size := by rw [hT]; exact hl
        simp [Array.getD, h1]
    · rw [if_neg (fun h2 => h (Option.some.inj h2.1))]
      simp only [Array.getD_eq_getD_getElem?, Array.getElem?_setIfInBounds, if_neg h]

/-- A quiet operation, on the machine. -/
theorem quiet_exec (hs : Stat ops pre) (hreg : regOk b.G ops.toList = true) (hB : Bd P ih ops pre b ρ0 s0 a0 L H p a s ρ w A) (hrc : recheck P b.G ih s p = true) {e : Ent} (he : e ∈ H) (hp : L e.i = false)
    (hr : ∀ x ∈ e.o.after, Region.binds .any x = true → L x.on = true) (hL : ∀ j, L' j = (L j || j == e.i)) :
    ∃ ρ' w' A', Bd P ih ops pre b ρ0 s0 a0 L' H p a s ρ' w' A' ∧ ∀ (fb : Frame) (k : List Item) (cs : List Frame) (rest : List Nat), Steps P (lone (fb.atR A (.inRegion ops (e.i :: rest) :: k)) cs w) (lone (fb.atR A' (.inRegion ops rest :: k)) cs w') := by
  have heo := hB.hok.op e he
  have hmem : e.o ∈ ops.toList := Array.mem_toList_iff.2 (Array.mem_of_getElem? heo)
  have hlk : ∀ d ∈ looks ops.toList e.o, VRel ρ (ev e.a (.tmp d)) (A.tmps.getD d undef) := fun d hd => by
    rw [← cur_at hs hB.closed hp hr hd hB.hok he]
    exact hB.tmps d
  have hwt := wants_ok (ρ := ρ) (ops := ops) (a := e.a) (tmps := A.tmps) (o := e.o) fun j want g d h1 h2 h3 => hlk d (looks_guard h1 h2 h3)
  have hops := ops_rel hB.ok.rel hreg hmem hlk
  -- the next bound
  have fin : ∀ (ρ' : Ren) (w' : World) (v' : Value), Ok P b ρ0 s0 ρ' s w' → ρ.Le ρ' → (∀ x ∈ H, x.i ≠ e.i → ∀ k, x.id = some k → ρ k = none → ρ' k = none) → VRel ρ' e.v v' → Bd P ih ops pre b ρ0 s0 a0 L' H p a s ρ' w' (A.put e.o.dst v') := by
    intro ρ' w' v' hok hle hid hv
    refine ⟨hok, hB.hok, hB.env, closed_set hB.closed heo hr hL, fun i hi => ?_, ?_, fun d => ?_, ?_, fun x hx hl => ?_, hB.ids, hB.G0⟩
    · rw [hL] at hi
      cases hli : L i with
      | true => exact hB.sub i hli
      | false =>
        rw [hli, Bool.false_or] at hi
        exact ⟨e, he, (eq_of_beq hi).symm⟩
    · have := hB.size
      cases hd : e.o.dst <;> simp [Act.put, this]
    · rw [cur_set hs hB.closed hp hL d hB.hok he]
      have := put_getD A.tmps a0.n hB.size e.o.dst v' A.defers d
      have e1 : (A.put e.o.dst v').tmps.getD d undef = if e.o.dst = some d ∧ d < a0.n then v' else A.tmps.getD d undef := this
      rw [e1]
      by_cases hd : e.o.dst = some d ∧ d < a0.n
      · rw [if_pos hd, if_pos hd]; exact hv
      · rw [if_neg hd, if_neg hd]; exact (hB.tmps d).mono hle
    · have : (A.put e.o.dst v').defers = A.defers := by cases hd : e.o.dst <;> rfl
      rw [this]; exact hB.defers.mono hle
    · rw [hL] at hl
      simp only [Bool.or_eq_false_iff, beq_eq_false_iff_ne] at hl
      exact (hB.ent x hx hl.1).mono (fun q hq _ => hq) fun k hk h1 h2 => ⟨hid x hx hl.2 k hk h1, h2, rfl⟩
  have hent := hB.ent e he hp
  cases hwb : wants ops.toList e.a e.o with
  | false =>
    obtain ⟨h1, _⟩ := hent.2.1 hwb
    rw [hwb] at hwt
    refine ⟨ρ, w, A.put e.o.dst undef, fin ρ w undef hB.ok (.refl _) (fun _ _ _ _ _ h => h) (by rw [h1]; exact undef_rel ρ), fun fb k cs rest => ?_⟩
    have hst := stepR_op_skip (P := P) (b := fb) (a := A) (k := k) (cs := cs) (w := w) (ops := ops) (i := e.i) (rest := rest) (by simp [heo, ← hwt])
    simp only [heo, Option.bind_some] at hst
    exact .one hst
  | true =>
    rw [hwb] at hwt
    obtain ⟨h0, h1, h2⟩ := hent.2.2 hwb
    have hnd : ∀ c, e.o.op ≠ .defer c := fun c hc => by
      apply hent.1
      unfold opKind
      rw [hc]
    have hkk : opKind P e.o = 0 ∨ opKind P e.o = 1 ∨ opKind P e.o = 2 := by
      have : opKind P e.o = 0 ∨ opKind P e.o = 1 ∨ opKind P e.o = 2 ∨ opKind P e.o = 3 := by
        unfold opKind
        repeat' split
        all_goals simp
      rcases this with h | h | h | h
      · exact .inl h
      · exact .inr (.inl h)
      · exact .inr (.inr h)
      · exact absurd h hent.1
    rcases hkk with hk | hk | hk
    · obtain ⟨_, s1, s2, hrun⟩ := h0 hk
      obtain ⟨_, v', g1, g2⟩ := quiet0_ok (w := w) hk hrun hops
      exact ⟨ρ, w, _, fin ρ w v' hB.ok (.refl _) (fun _ _ _ _ _ h => h) g1, fun fb k cs rest => step_op heo hwt.symm hnd (by rw [g2]; exact ⟨rfl, rfl⟩)⟩
    · obtain ⟨_, hm⟩ := h1 hk
      obtain ⟨s', hrun⟩ := recheck_mem hrc _ hm
      obtain ⟨_, v', g1, g2⟩ := quiet1_ok hk hrun hops hB.ok.rel
      exact ⟨ρ, w, _, fin ρ w v' hB.ok (.refl _) (fun _ _ _ _ _ h => h) g1, fun fb k cs rest => step_op heo hwt.symm hnd (by rw [g2]; exact ⟨rfl, rfl⟩)⟩
    · obtain ⟨id, cs, el, lo, e1, e2, e3, e4, e5, e6⟩ := h2 hk
      obtain ⟨w1, o', cap, v', hw1, g1, g2⟩ := e2 ρ w A.eval hops
      have hsz : w1.heap.size = w.heap.size := by rcases hw1 with rfl | rfl <;> rfl
      have hok1 : WRel P b ρ s w1 := by rcases hw1 with rfl | rfl; exact hB.ok.rel; exact hB.ok.rel.drew
      have hG : b.G ≤ id := Nat.le_trans hB.G0 e5
      have hreal := hok1.realize (cap := cap) (o' := o') e6 e3 e4 hG fun ρ' hle hid => by rw [hsz] at hid ⊢; exact (g2 ρ' hle hid).1
      rw [hsz] at hreal
      have hle : ρ.Le (ρ.upd id ⟨w.heap.size, 0, cap⟩) := fun i l hl => by
        rw [upd_ne]
        · exact hl
        · rintro rfl; rw [e3] at hl; cases hl
      have hv := (g2 _ hle (upd_self _ _ _)).2
      refine ⟨_, _, _, fin (ρ.upd id ⟨w.heap.size, 0, cap⟩) (w1.alloc o') v' ⟨fun i hi => ?_, hB.ok.next, hB.ok.pend, hreal⟩ hle (fun x hx hne k hk hkn => ?_) hv, fun fb k cs rest => step_op heo hwt.symm hnd (by rw [g1]; exact ⟨rfl, rfl⟩)⟩
      · rw [upd_ne _ _ (by omega)]; exact hB.ok.ext i hi
      · rw [upd_ne]
        · exact hkn
        · rintro rfl
          exact HOk.ids hB.hok e he x hx (Ne.symm hne) e1 hk
end
end Go.Proofs.YtdhkebolenbpiaaGreatDoor.X

namespace Go.Proofs.YtdhkebolenbpiaaGreatDoor.X
open Go.RowKit

section
variable {P : Program} {ih : Ih} {ops : Array Oper} {pre : List Nat} {b : Base} {ρ0 : Ren} {s0 : St} {a0 : Ac}
variable {L L' : Nat → Bool} {H : List Ent} {p p' : List Pend} {a : Ac} {s : St} {ρ : Ren} {w : World} {A : Act}

/-- An operation that acts, on the machine. -/
theorem loud_exec (hih : IhOk P b.G b.val ih) (hs : Stat ops pre) (hreg : regOk b.G ops.toList = true) (hB : Bd P ih ops pre b ρ0 s0 a0 L H p a s ρ w A) {j : Nat} {o : Oper} (ho : ops[j]? = some o) (_hj : L j = false) (hH : ∀ x ∈ H, j ≠ x.i ∧ inPre pre j x.i = false)
    (hr : ∀ x ∈ o.after, Region.binds .any x = true → L x.on = true) (hL : ∀ i, L' i = (L i || i == j)) (hp' : p' = p.filter fun x => !inPre pre x.i j)
    {go : List Pend → Ac → St → Rs (Ex × Ac)} {r : Ex × Ac} {s2 : St} (h : (bif wants ops.toList a o then liftR (oper P b.G ih a o s) fun v s => go p' (put a o.dst v) s else go p' (put a o.dst undef) s) = .ok r s2) (fb : Frame) (k : List Item) (cs : List Frame) (rest : List Nat) :
    ∃ v s1 ρ' w' A', go p' (put a o.dst v) s1 = .ok r s2 ∧ Bd P ih ops pre b ρ0 s0 a0 L' (⟨j, o, a, v, none⟩ :: H) p' (put a o.dst v) s1 ρ' w' A' ∧
      Steps P (lone (fb.atR A (.inRegion ops (j :: rest) :: k)) cs w) (lone (fb.atR A' (.inRegion ops rest :: k)) cs w') := by
  have hmem : o ∈ ops.toList := Array.mem_toList_iff.2 (Array.mem_of_getElem? ho)
  have hcur : ∀ d ∈ looks ops.toList o, cur L a0 H d = ev a (.tmp d) := fun d hd => by
    rw [hB.env.ev d]
    refine cur_congr fun x hx hxd => ?_
    have hxo := hB.hok.op x hx
    have hxl : x.i < ops.size := (Array.getElem?_eq_some_iff.1 hxo).1
    rcases hs.ap x.i j _ _ hxo ho (hH x hx).1.symm with h | h | h
    · exact pre_ready hs hB.closed ho hxl hr h
    · rw [(hH x hx).2] at h; cases h
    · exact absurd hd (apart_looks h hxd).1
  have hlk : ∀ d ∈ looks ops.toList o, VRel ρ (ev a (.tmp d)) (A.tmps.getD d undef) := fun d hd => by
    rw [← hcur d hd]; exact hB.tmps d
  have hwt := wants_ok (ρ := ρ) (ops := ops) (a := a) (tmps := A.tmps) (o := o) fun i want g d h1 h2 h3 => hlk d (looks_guard h1 h2 h3)
  have hops := ops_rel hB.ok.rel hreg hmem hlk
  have fin : ∀ (v v' : Value) (s1 : St) (ρ' : Ren) (w' : World), Ok P b ρ s ρ' s1 w' → VRel ρ' v v' → Bd P ih ops pre b ρ0 s0 a0 L' (⟨j, o, a, v, none⟩ :: H) p' (put a o.dst v) s1 ρ' w' (A.put o.dst v') := by
    intro v v' s1 ρ' w' hok hv
    have hle := hok.le hB.ok.rel
    refine ⟨hB.ok.trans hok, ⟨ho, fun x hx => ⟨(hH x hx).1.symm, (hH x hx).2⟩, hB.env, fun k hk => by (dsimp only at hk; cases hk), hB.hok⟩, env_put hB.env j o a v none, closed_set hB.closed ho hr hL, fun i hi => ?_, ?_, fun d => ?_, ?_, fun x hx hl => ?_, fun x hx k hk => ?_, hB.G0⟩
    · rw [hL] at hi
      cases hli : L i with
      | true =>
        obtain ⟨e, he, h1⟩ := hB.sub i hli
        exact ⟨e, by simp [he], h1⟩
      | false =>
        rw [hli, Bool.false_or] at hi
        exact ⟨_, List.mem_cons_self, (eq_of_beq hi).symm⟩
    · have := hB.size
      cases hd : o.dst <;> simp [Act.put, this]
    · rw [cur_cons]
      have e1 : (A.put o.dst v').tmps.getD d undef = if o.dst = some d ∧ d < a0.n then v' else A.tmps.getD d undef := put_getD A.tmps a0.n hB.size o.dst v' A.defers d
      rw [e1]
      dsimp only
      have hLj : L' j = true := by rw [hL, beq_self_eq_true, Bool.or_true]
      have e2 : cur L' a0 H d = cur L a0 H d := cur_congr fun x hx _ => by
        rw [hL]
        have : (x.i == j) = false := by simpa using (hH x hx).1.symm
        rw [this, Bool.or_false]
      rw [e2]
      by_cases hd : o.dst = some d ∧ d < a0.n
      · rw [if_pos hd, if_pos ⟨hLj, hd⟩]; exact hv
      · rw [if_neg hd, if_neg (fun h => hd h.2)]; exact (hB.tmps d).mono hle
    · have : (A.put o.dst v').defers = A.defers := by cases hd : o.dst <;> rfl
      rw [this]
      have hd0 : DRel ρ' a0.d A.defers := hB.defers.mono hle
      exact hd0
    · rw [hL] at hl
      simp only [Bool.or_eq_false_iff, beq_eq_false_iff_ne] at hl
      rcases List.mem_cons.1 hx with rfl | hx
      · exact absurd rfl hl.2
      · refine (hB.ent x hx hl.1).mono (fun q hq hqi => ?_) fun k hk h1 h2 => ⟨?_, ?_, ?_⟩
        · rw [hp', List.mem_filter]
          refine ⟨hq, ?_⟩
          rw [hqi]
          cases hin : inPre pre x.i j with
          | false => rfl
          | true =>
            have hxl : x.i < ops.size := (Array.getElem?_eq_some_iff.1 (hB.hok.op x hx)).1
            rw [pre_ready hs hB.closed ho hxl hr hin] at hl
            cases hl.1
        · exact (hok.ext k h2).trans h1
        · exact Nat.lt_of_lt_of_le h2 hok.next
        · exact hok.pend k h2 h1
    · rcases List.mem_cons.1 hx with rfl | hx
      · dsimp only at hk; cases hk
      · exact Nat.lt_of_lt_of_le (hB.ids x hx k hk) hok.next
  cases hwb : wants ops.toList a o with
  | true =>
    rw [hwb] at h hwt
    simp only [cond_true] at h
    obtain ⟨v, s1, h1, h2⟩ := liftR_ok h
    obtain ⟨⟨ρ1, w1, v', g1, g2, g3⟩, hnd⟩ := oper_ok hih h1 (e' := A.eval) hops hB.ok.rel (c := fb.atR A (.inRegion ops (j :: rest) :: k)) (cs := cs)
    exact ⟨v, s1, ρ1, w1, _, h2, fin v v' s1 ρ1 w1 g1 g2, step_op ho hwt.symm hnd g3⟩
  | false =>
    rw [hwb] at h hwt
    simp only [cond_false] at h
    refine ⟨undef, s, ρ, w, _, h, fin undef undef s ρ w (.refl hB.ok.rel) (undef_rel ρ), ?_⟩
    have hst := stepR_op_skip (P := P) (b := fb) (a := A) (k := k) (cs := cs) (w := w) (ops := ops) (i := j) (rest := rest) (by simp [ho, ← hwt])
    simp only [ho, Option.bind_some] at hst
    exact .one hst

/-- Where a stage's own operations are run and looked at again: what is left of the run. -/
noncomputable def Left (P : Program) (G : Nat) (ih : Ih) (ops : List Oper) (pre : List Nat) (g : Stage) (r : List Stage) (p : List Pend) (a : Ac) (s : St) : Rs (Ex × Ac) :=
  match g.l with
  | none => (match r with | [] => .ok (.normal, a) s | _ => .no 138 1)
  | some j =>
    match nth ops j with
    | none => .no 138 2
    | some o =>
      bif wants ops a o then liftR (oper P G ih a o s) fun v s => stagesRun P G ih ops pre r (p.filter fun x => !inPre pre x.i j) (put a o.dst v) s else stagesRun P G ih ops pre r (p.filter fun x => !inPre pre x.i j) (put a o.dst undef) s
theorem stages_cons {G : Nat} {ops : List Oper} {g : Stage} {r : List Stage} {p : List Pend} {a : Ac} {s : St} {x : Ex × Ac} {s2 : St} (h : stagesRun P G ih ops pre (g :: r) p a s = .ok x s2) :
    ∃ p1 a1 s1, quietRun P G ih ops g.qs p a s = .ok (p1, a1) s1 ∧ recheck P G ih s1 p1 = true ∧ Left P G ih ops pre g r p1 a1 s1 = .ok x s2 := by
  have h' : (liftR (quietRun P G ih ops g.qs p a s) fun q s => bif recheck P G ih s q.1 then Left P G ih ops pre g r q.1 q.2 s else .no 140 0) = .ok x s2 := by
    rw [← h]
    show _ = liftR _ _
    congr 1
  obtain ⟨q, s1, h1, h2⟩ := liftR_ok h'
  cases hr : recheck P G ih s1 q.1 with
  | true => rw [hr] at h2; exact ⟨q.1, q.2, s1, h1, hr, h2⟩
  | false => rw [hr] at h2; cases h2
def left (n : Nat) (L : Nat → Bool) : Nat := ((List.range n).filter fun i => !L i).length
theorem left_set {n : Nat} {i : Nat} (hi : i < n) (h : L i = false) (hL : ∀ j, L' j = (L j || j == i)) : left n L' < left n L := by
  unfold left
  have : (List.range n).filter (fun j => !L' j) = ((List.range n).filter fun j => !L j).filter fun j => !(j == i) := by
    rw [List.filter_filter]
    congr 1
    funext j
    rw [hL]
    cases L j <;> cases (j == i) <;> rfl
  rw [this, List.length_filter_lt_length_iff_exists]
  exact ⟨i, List.mem_filter.2 ⟨List.mem_range.2 hi, by simp [h]⟩, by simp⟩
theorem left_zero {n : Nat} (h : left n L = 0) : ∀ i, i < n → L i = true := fun i hi => by
  unfold left at h
  rw [List.length_eq_zero_iff, List.filter_eq_nil_iff] at h
  simpa using h i (List.mem_range.2 hi)
end
end Go.Proofs.YtdhkebolenbpiaaGreatDoor.X

namespace Go.Proofs.YtdhkebolenbpiaaGreatDoor.X
open Go.RowKit

section
variable {P : Program} {ih : Ih} {ops : Array Oper} {pre : List Nat} {b : Base} {ρ0 : Ren} {s0 : St} {a0 : Ac}

theorem getD_true {l : Array Bool} {i : Nat} (h : i < l.size) : l.getD i true = l.getD i false := by
  simp [Array.getD, h]
theorem ready_mem {listed : Array Bool} (hsz : listed.size = ops.size) {i : Nat} (h : i ∈ Region.ready .any ops listed) :
    i < ops.size ∧ listed.getD i false = false ∧ ∃ o, ops[i]? = some o ∧ ∀ x ∈ o.after, Region.binds .any x = true → listed.getD x.on false = true := by
  unfold Region.ready at h
  rw [List.mem_filter, List.mem_range, Bool.and_eq_true] at h
  obtain ⟨h1, h2, h3⟩ := h
  rw [getD_true (by rw [hsz]; exact h1)] at h2
  refine ⟨h1, by simpa using h2, ops[i], Array.getElem?_eq_getElem h1, fun x hx hb => ?_⟩
  rw [Array.getElem?_eq_getElem h1] at h3
  simp only [Option.map_some, Option.getD_some, Array.all_eq_true_iff_forall_mem] at h3
  have := h3 x hx
  rw [hb] at this
  simpa using this
theorem all_listed (hs : Stat ops pre) {listed : Array Bool} (hsz : listed.size = ops.size) (h : Region.ready .any ops listed = []) : ∀ i, i < ops.size → listed.getD i false = true := by
  intro i
  induction i using Nat.strongRecOn with
  | _ i ih =>
    intro hi
    cases hl : listed.getD i false with
    | true => rfl
    | false =>
      have : i ∈ Region.ready .any ops listed := by
        unfold Region.ready
        rw [List.mem_filter, List.mem_range, Bool.and_eq_true, getD_true (by rw [hsz]; exact hi), hl]
        refine ⟨hi, rfl, ?_⟩
        rw [Array.getElem?_eq_getElem hi]
        simp only [Option.map_some, Option.getD_some, Array.all_eq_true_iff_forall_mem]
        intro x hx
        cases hb : Region.binds .any x with
        | false => rfl
        | true =>
          have hd := hs.down i _ x (Array.getElem?_eq_getElem hi) hx hb
          rw [ih x.on hd (by omega)]; rfl
      rw [h] at this
      cases this

theorem draw_end {g : Stage} {r : List Stage} {L : Nat → Bool} {H : List Ent} {p : List Pend} {a : Ac} {s : St} {ρ : Ren} {w : World} {A : Act} {e : Ex} {a2 : Ac} {s2 : St}
    (hB : Bd P ih ops pre b ρ0 s0 a0 L H p a s ρ w A) (hrun : Left P b.G ih ops.toList pre g r p a s = .ok (e, a2) s2) (hR : ∀ x ∈ H, ∀ i ∈ g.l.toList ++ ordOf r, i ≠ x.i ∧ inPre pre i x.i = false) (hlt : ∀ i ∈ g.l.toList ++ ordOf r, i < ops.size)
    (hall : ∀ i, i < ops.size → L i = true) : Ok P b ρ0 s0 ρ s2 w ∧ AcRel ρ a2 A ∧ e = .normal := by
  have hnil : ∀ i, i ∉ g.l.toList ++ ordOf r := fun i hi => by
    obtain ⟨x, hx, h1⟩ := hB.sub i (hall i (hlt i hi))
    exact (hR x hx i hi).1 h1.symm
  unfold Left at hrun
  cases hg : g.l with
  | some j => rw [hg] at hnil; exact absurd (by simp) (hnil j)
  | none =>
    rw [hg] at hrun
    cases r with
    | cons _ _ => cases hrun
    | nil =>
      injection hrun with h1 h2
      injection h1 with h1 h3
      subst h1; subst h2; subst h3
      refine ⟨hB.ok, ⟨by rw [hB.size, hB.env.n], fun d => ?_, by rw [hB.env.d]; exact hB.defers⟩, rfl⟩
      rw [hB.env.ev d, ← cur_congr (S := L) fun x hx _ => hall x.i (Array.getElem?_eq_some_iff.1 (hB.hok.op x hx)).1]
      exact hB.tmps d

theorem ordOk_tail : ∀ (l m : List Nat), ordOk pre (l ++ m) = true → ordOk pre m = true
  | [], _, h => h
  | z :: l, m, h => by
    have h' : ((l ++ m).all (fun x => x != z && !inPre pre x z) && ordOk pre (l ++ m)) = true := h
    rw [Bool.and_eq_true] at h'
    exact ordOk_tail l m h'.2
theorem draw_main (hih : IhOk P b.G b.val ih) (hs : Stat ops pre) (hreg : regOk b.G ops.toList = true) : ∀ (fuel t : Nat) {listed : Array Bool} {g : Stage} {r : List Stage} {H : List Ent} {p : List Pend} {a : Ac} {s : St} {ρ : Ren} {w : World} {A : Act} {e : Ex} {a2 : Ac} {s2 : St},
    listed.size = ops.size → left ops.size (fun i => listed.getD i false) ≤ fuel → Bd P ih ops pre b ρ0 s0 a0 (fun i => listed.getD i false) H p a s ρ w A → recheck P b.G ih s p = true → Left P b.G ih ops.toList pre g r p a s = .ok (e, a2) s2 →
    (∀ x ∈ H, ∀ i ∈ g.l.toList ++ ordOf r, i ≠ x.i ∧ inPre pre i x.i = false) → ordOk pre (g.l.toList ++ ordOf r) = true → (∀ j, g.l = some j → ∀ i ∈ ordOf r, inPre pre j i = true) → stOk P ops.toList pre r = true →
    (∀ i, i < ops.size → (∃ e ∈ H, e.i = i) ∨ i ∈ g.l.toList ++ ordOf r) → (∀ i ∈ g.l.toList ++ ordOf r, i < ops.size) → ∀ (fb : Frame) (k : List Item) (cs : List Frame),
    ∃ ρ' A' w', Ok P b ρ0 s0 ρ' s2 w' ∧ AcRel ρ' a2 A' ∧ e = .normal ∧ Steps P (lone (fb.atR A (.inRegion ops (Region.linearise.go .any ops fuel t listed []) :: k)) cs w) (lone (fb.atR A' k) cs w') := by
  intro fuel
  induction fuel with
  | zero =>
    intro t listed g r H p a s ρ w A e a2 s2 hsz hf hB hrc hrun hR ho hl hst hcov hlt fb k cs
    have hall := left_zero (Nat.le_zero.1 hf)
    obtain ⟨h1, h2, h3⟩ := draw_end hB hrun hR hlt hall
    exact ⟨ρ, A, w, h1, h2, h3, .one (by simp only [Region.linearise.go, List.reverse_nil]; exact stepR_region_end)⟩
  | succ fuel IH =>
    intro t listed g r H p a s ρ w A e a2 s2 hsz hf hB hrc hrun hR ho hl hst hcov hlt fb k cs
    have hgo : Region.linearise.go .any ops (fuel + 1) t listed [] = match (Region.ready .any ops listed)[t % (Region.ready .any ops listed).length]? with
      | some i => Region.linearise.go .any ops fuel (t / (Region.ready .any ops listed).length) (listed.setIfInBounds i true) [i]
      | none => [] := rfl
    rw [hgo]
    cases hi : (Region.ready .any ops listed)[t % (Region.ready .any ops listed).length]? with
    | none =>
      have hnil : Region.ready .any ops listed = [] := by
        cases hr : Region.ready .any ops listed with
        | nil => rfl
        | cons x xs =>
          rw [hr] at hi
          have hlt : t % (x :: xs).length < (x :: xs).length := Nat.mod_lt _ (by simp)
          rw [List.getElem?_eq_getElem hlt] at hi
          cases hi
      obtain ⟨h1, h2, h3⟩ := draw_end hB hrun hR hlt (all_listed hs hsz hnil)
      exact ⟨ρ, A, w, h1, h2, h3, .one stepR_region_end⟩
    | some i =>
      have hir := List.mem_of_getElem? hi
      obtain ⟨hin, hil, o, hio, haft⟩ := ready_mem hsz hir
      generalize t / (Region.ready .any ops listed).length = t'
      have hL : ∀ j, (fun j => (listed.setIfInBounds i true).getD j false) j = ((fun j => listed.getD j false) j || j == i) := fun j => by
        simp only [Array.getD_eq_getD_getElem?, Array.getElem?_setIfInBounds]
        by_cases hj : i = j
        · subst hj
          have : i < listed.size := by rw [hsz]; exact hin
          simp [this]
        · have : (j == i) = false := by simpa using fun e => hj e.symm
          rw [if_neg hj, this, Bool.or_false]
      have hsz' : (listed.setIfInBounds i true).size = ops.size := by simpa using hsz
      have hf' : left ops.size (fun j => (listed.setIfInBounds i true).getD j false) ≤ fuel := by
        have := left_set hin hil hL
        omega
      simp only []
      rw [linearise_go_acc, List.reverse_singleton, List.singleton_append]
      rcases hcov i hin with ⟨x, hx, hxi⟩ | hrem
      · subst hxi
        obtain ⟨ρ1, w1, A1, hB1, st1⟩ := quiet_exec hs hreg hB hrc hx hil (by
          have := hB.hok.op x hx
          rw [hio] at this
          injection this with this
          subst this
          exact haft) hL
        obtain ⟨ρ2, A2, w2, q1, q2, q3, q4⟩ := IH t' hsz' hf' hB1 hrc hrun hR ho hl hst hcov hlt fb k cs
        exact ⟨ρ2, A2, w2, q1, q2, q3, (st1 fb k cs _).trans q4⟩
      · have hne : ∀ j, g.l = some j → i = j := fun j hj => by
          rw [hj] at hrem
          simp only [Option.toList_some, List.singleton_append, List.mem_cons] at hrem
          rcases hrem with h | h
          · exact h
          · have hji := hl j hj i h
            have hjn : j < ops.size := hlt j (by rw [hj]; simp)
            have := pre_ready hs hB.closed hio hjn haft hji
            obtain ⟨x, hx, hxj⟩ := hB.sub j this
            exact absurd hxj.symm (hR x hx j (by rw [hj]; simp)).1
        cases hg : g.l with
        | none =>
          exfalso
          rw [hg] at hrem
          unfold Left at hrun
          rw [hg] at hrun
          cases r with
          | nil => cases hrem
          | cons _ _ => cases hrun
        | some j =>
          have := hne j hg
          subst this
          have hrun' := hrun
          unfold Left at hrun'
          rw [hg] at hrun'
          dsimp only at hrun'
          rw [nth_eq, show ops.toList[i]? = some o by simpa using hio] at hrun'
          dsimp only at hrun'
          rw [hg] at hR ho hcov hlt
          simp only [Option.toList_some, List.singleton_append] at hR ho hcov hlt
          obtain ⟨v, s1, ρ1, w1, A1, g1, hB1, st1⟩ := loud_exec hih hs hreg hB hio hil (fun x hx => hR x hx i (by simp)) haft hL rfl hrun' fb k cs (Region.linearise.go .any ops fuel t' (listed.setIfInBounds i true) [])
          have ho' : ((ordOf r).all fun x => x != i && !inPre pre x i) = true ∧ ordOk pre (ordOf r) = true := by
            unfold ordOk at ho
            simpa only [Bool.and_eq_true] using ho
          cases r with
          | nil => cases g1
          | cons g' r' =>
            obtain ⟨p1, a1, s3, k1, k2, k3⟩ := stages_cons g1
            have hord : ordOf (g' :: r') = g'.qs ++ (g'.l.toList ++ ordOf r') := by simp [ordOf]
            rw [hord] at ho' hR hcov hlt
            have hst' : (g'.qs.all fun i => match ops.toList[i]? with | some o => opKind P o != 3 | none => false) = true ∧ (match g'.l with | none => true | some j => (ordOf r').all fun i => inPre pre j i) = true ∧ stOk P ops.toList pre r' = true := by
              unfold stOk at hst
              rw [Bool.and_eq_true, Bool.and_eq_true] at hst
              exact ⟨hst.1.1, hst.1.2, hst.2⟩
            have hLf : ∀ x ∈ g'.qs ++ (g'.l.toList ++ ordOf r'), (fun j => (listed.setIfInBounds i true).getD j false) x = false := fun x hx => by
              have hxi : x ≠ i := by
                have := (List.all_eq_true.1 ho'.1) x hx
                simp only [Bool.and_eq_true, bne_iff_ne] at this
                exact this.1
              rw [hL]
              have h1 : (x == i) = false := by simpa using hxi
              rw [h1, Bool.or_false]
              cases hlx : (fun j => listed.getD j false) x with
              | false => rfl
              | true =>
                obtain ⟨y, hy, hyx⟩ := hB.sub x hlx
                exact absurd hyx.symm (hR y hy x (List.mem_cons_of_mem _ hx)).1
            obtain ⟨H2, hB2, r1, r2, r3⟩ := quiet_stage (rem := g'.l.toList ++ ordOf r') g'.qs k1 hB1 (fun x hx y hy => by
              rcases List.mem_cons.1 hx with rfl | hx
              · have := (List.all_eq_true.1 ho'.1) y hy
                simpa using this
              · exact hR x hx y (List.mem_cons_of_mem _ hy)) ho'.2 (fun y hy o2 ho2 => by
                have := (List.all_eq_true.1 hst'.1) y hy
                rw [show ops.toList[y]? = some o2 by simpa using ho2] at this
                simpa using this) (fun y hy => hLf y (List.mem_append_left _ hy))
            obtain ⟨ρ2, A2, w2, q1, q2, q3, q4⟩ := IH t' (g := g') (r := r') hsz' hf' hB2 k2 k3 r1 (by
              exact ordOk_tail _ _ ho'.2) (fun j hj y hy => by
                have := hst'.2.1
                rw [hj] at this
                exact (List.all_eq_true.1 this) y hy) hst'.2.2 (fun y hy => by
                rcases hcov y hy with ⟨x, hx, hxy⟩ | h
                · exact .inl ⟨x, r2 x (by simp [hx]), hxy⟩
                · rcases List.mem_cons.1 h with rfl | h
                  · exact .inl ⟨_, r2 _ List.mem_cons_self, rfl⟩
                  · rcases List.mem_append.1 h with h | h
                    · exact .inl (r3 y h)
                    · exact .inr h) (fun y hy => hlt y (List.mem_cons_of_mem _ (List.mem_append_right _ hy))) fb k cs
            exact ⟨ρ2, A2, w2, q1, q2, q3, st1.trans q4⟩
end
end Go.Proofs.YtdhkebolenbpiaaGreatDoor.X

namespace Go.Proofs.YtdhkebolenbpiaaGreatDoor.X
open Go.RowKit

section
variable {P : Program}

theorem plan_ok {ops : List Oper} {pl : List Stage} (h : planOf P ops = some pl) : plOk P ops (preOf ops) pl = true := by
  unfold planOf at h
  dsimp only at h
  generalize hg : List.map _ _ = g at h
  cases hp : plOk P ops (preOf ops) g with
  | true =>
    rw [hp] at h
    injection h with h
    subst h
    exact hp
  | false => rw [hp] at h; cases h
theorem stat_of {ops : Array Oper} {pre : List Nat}
    (h1 : (ops.toList.zipIdx.all fun (o, i) => (o.after.toList.all fun e => !Region.binds .any e || decide (e.on < i)) &&
      (List.range ops.toList.length).all fun j => !inPre pre j i || o.after.toList.any fun e => Region.binds .any e && (e.on == j || inPre pre j e.on)) = true)
    (h2 : (ops.toList.zipIdx.all fun (x, i) => ops.toList.zipIdx.all fun (y, j) => i == j || inPre pre i j || inPre pre j i || apart ops.toList x y) = true) : Stat ops pre := by
  have hz : ∀ (i : Nat) (o : Oper), ops[i]? = some o → (o, i) ∈ ops.toList.zipIdx := fun i o h => by
    rw [List.mk_mem_zipIdx_iff_getElem?]
    simpa using h
  refine ⟨fun i o e ho he hb => ?_, fun i o j ho hj hp => ?_, fun i j x y hx hy hne => ?_⟩
  · have := (List.all_eq_true.1 h1) _ (hz i o ho)
    simp only [Bool.and_eq_true] at this
    have := (List.all_eq_true.1 this.1) e (Array.mem_toList_iff.2 he)
    rw [hb] at this
    simpa using this
  · have := (List.all_eq_true.1 h1) _ (hz i o ho)
    simp only [Bool.and_eq_true] at this
    have := (List.all_eq_true.1 this.2) j (List.mem_range.2 (by simpa using hj))
    rw [hp] at this
    simp only [Bool.not_true, Bool.false_or, List.any_eq_true, Bool.and_eq_true, Bool.or_eq_true, beq_iff_eq] at this
    obtain ⟨e, he, h1, h2⟩ := this
    exact ⟨e, Array.mem_toList_iff.1 he, h1, h2⟩
  · have := (List.all_eq_true.1 h2) _ (hz i x hx)
    have := (List.all_eq_true.1 this) _ (hz j y hy)
    simp only [Bool.or_eq_true, beq_iff_eq] at this
    rcases this with ((h | h) | h) | h
    · exact absurd h hne
    · exact .inl h
    · exact .inr (.inl h)
    · exact .inr (.inr h)

/-- A region that draws. -/
theorem draw_ok (hm : P.follows .mixedOrders = true) (G : Nat) : DrawOk P G := by
  intro V ih hih id ops pl a s e a2 s2 hreg hpl hrun b ρ w A hbG hw ha fn fb k cs hfb
  injection hbG with hbG hbV
  subst hbG; subst hbV
  have hp := plan_ok hpl
  unfold plOk at hp
  simp only [Bool.and_eq_true] at hp
  obtain ⟨⟨⟨⟨⟨pA, pB⟩, pC⟩, pD⟩, pE⟩, pF⟩ := hp
  have hs : Stat ops (preOf ops.toList) := stat_of (by simpa only [Bool.and_eq_true] using pE) pF
  cases pl with
  | nil => cases hrun
  | cons g r =>
    obtain ⟨p1, a1, s1, k1, k2, k3⟩ := stages_cons hrun
    have hord : ordOf (g :: r) = g.qs ++ (g.l.toList ++ ordOf r) := by simp [ordOf]
    rw [hord] at pA pB pC
    have hst : (g.qs.all fun i => match ops.toList[i]? with | some o => opKind P o != 3 | none => false) = true ∧ (match g.l with | none => true | some j => (ordOf r).all fun i => inPre (preOf ops.toList) j i) = true ∧ stOk P ops.toList (preOf ops.toList) r = true := by
      unfold stOk at pD
      rw [Bool.and_eq_true, Bool.and_eq_true] at pD
      exact ⟨pD.1.1, pD.1.2, pD.2⟩
    have hL : ∀ i, (Array.replicate ops.size false).getD i false = false := fun i => by
      simp only [Array.getD_eq_getD_getElem?, Array.getElem?_replicate]
      split <;> rfl
    have hB : Bd P ih ops (preOf ops.toList) b ρ s a (fun i => (Array.replicate ops.size false).getD i false) [] [] a s ρ { w with drawn := w.drawn + 1 } A := by
      refine ⟨.refl hw.drew, trivial, ⟨rfl, rfl, fun _ => rfl⟩, fun i o x _ h => ?_, fun i h => ?_, ha.size, ha.tmps, ha.defers, fun _ h => (List.not_mem_nil h).elim, fun _ h => (List.not_mem_nil h).elim, hw.base⟩
      · rw [hL] at h; cases h
      · rw [hL] at h; cases h
    obtain ⟨H2, hB2, r1, _, r3⟩ := quiet_stage (rem := g.l.toList ++ ordOf r) g.qs k1 hB (fun x hx => by cases hx) pC (fun i hi o ho => by
      have := (List.all_eq_true.1 hst.1) i hi
      rw [show ops.toList[i]? = some o by simpa using ho] at this
      simpa using this) (fun i _ => hL i)
    have hlt : ∀ i ∈ g.qs ++ (g.l.toList ++ ordOf r), i < ops.size := fun i hi => by
      have := (List.all_eq_true.1 pB) i hi
      simpa using this
    obtain ⟨ρ2, A2, w2, q1, q2, q3, q4⟩ := draw_main hih hs hreg ops.size (w.tape w.drawn (.order fn id)) (g := g) (r := r) (by simp) (by
        unfold left
        exact Nat.le_trans (List.length_filter_le _ _) (by simp)) hB2 k2 k3 r1 (ordOk_tail _ _ pC) (fun j hj i hi => by
        have := hst.2.1
        rw [hj] at this
        exact (List.all_eq_true.1 this) i hi) hst.2.2 (fun i hi => by
        have := (List.all_eq_true.1 pA) i (List.mem_range.2 (by simpa using hi))
        rw [List.contains_iff_mem] at this
        rcases List.mem_append.1 this with h | h
        · exact .inl (r3 i h)
        · exact .inr h) (fun i hi => hlt i (List.mem_append_right _ hi)) fb k cs
    refine ⟨ρ2, A2, w2, q1, q2, q3, ?_⟩
    refine .head stepR_region_draw ?_
    rw [hm, hfb]
    exact q4
end
end Go.Proofs.YtdhkebolenbpiaaGreatDoor.X

namespace Go.Proofs.YtdhkebolenbpiaaGreatDoor.X
open Go.RowKit

section
variable (P : Program) (G : Nat) (K : FuncId → List Value → St → Option (Value × St))
/-- The runner, with calls that are known. -/
noncomputable def goK (n : Nat) : Ih :=
  Nat.rec (motive := fun _ => Ih) { code := fun _ _ _ _ _ => .no 170 0, call := fun _ _ _ => .no 171 0 }
    (fun _ ih => { code := fun fn rnd c a s => stepCode P G ih fn rnd c a s, call := fun f args s => match K f args s with | some r => .ok r.1 r.2 | none => stepCall P G ih f args s }) n
end
end Go.Proofs.YtdhkebolenbpiaaGreatDoor.X

namespace Go.Proofs.YtdhkebolenbpiaaGreatDoor.X
open Go.RowKit

section
variable {P : Program} {G V : Nat}

/-- A call that returns, from wherever it is called. -/
def CallsU (P : Program) (f : FuncId) (args : Array Value) (w : World) (v : Value) : Prop := Calls P f args w fun e w' => e = .returned v ∧ Below w.heap.size w w'
theorem CallsU.calls {f : FuncId} {args : Array Value} {w : World} {v : Value} (h : CallsU P f args w v) : Calls P f args w fun e w' => e = .returned v ∧ Below w.heap.size w w' := h

variable {b : Base} {ρ : Ren} {s : St} {w w' : World}
theorem WRel.grow (h : WRel P b ρ s w) (hb : Below w.heap.size w w') : WRel P b ρ s w' :=
  ⟨fun i o l hi hd hl => by
    obtain ⟨o', h1, h2⟩ := h.heap i o l hi hd hl
    exact ⟨o', (hb.block _ (Array.getElem?_eq_some_iff.1 h1).1).trans h1, h2⟩,
   h.inj, h.dom, h.fresh, h.low, h.glob, h.base, Nat.le_trans h.size hb.size, h.below.trans (hb.mono h.size), h.apart, fun k hk => ⟨(h.kept k hk).1, (hb.block k (h.kept_lt hk)).trans (h.kept k hk).2⟩⟩

/-- What is known of calls. -/
def Known (P : Program) (G V : Nat) (K : FuncId → List Value → St → Option (Value × St)) : Prop := ∀ {f : FuncId} {args : List Value} {s : St} {v : Value} {s2 : St}, K f args s = some (v, s2) →
  ∀ {b : Base} {ρ : Ren} {w : World} {args' : List Value}, (b.G, b.val) = (G, V) → WRel P b ρ s w → LRel ρ args args' → ∀ cs : List Frame,
  ∃ ρ' v' w', Ok P b ρ s ρ' s2 w' ∧ VRel ρ' v v' ∧ ∃ fr, Steps P (lone (Frame.enter P f ⟨args'⟩ .normal) cs w) (lone fr cs w') ∧ fr.fn = f ∧ fr.leaving P w' (.returned v')
/-- A call that is known and leaves the abstract heap as it is. -/
theorem known_flat {f : FuncId} {args' : List Value} {v : Value} (hw : WRel P b ρ s w) (hv : flat v = true) (h : CallsU P f ⟨args'⟩ w v) (cs : List Frame) :
    ∃ ρ' v' w', Ok P b ρ s ρ' s w' ∧ VRel ρ' v v' ∧ ∃ fr, Steps P (lone (Frame.enter P f ⟨args'⟩ .normal) cs w) (lone fr cs w') ∧ fr.fn = f ∧ fr.leaving P w' (.returned v') := by
  obtain ⟨_, w', fr, ⟨rfl, g1⟩, g2, g3, g4⟩ := h cs
  exact ⟨ρ, v, w', ⟨fun _ _ => rfl, Nat.le_refl _, fun _ _ _ => rfl, hw.grow g1⟩, flat_refl ρ hv, fr, g2, g3, g4⟩
variable {K : FuncId → List Value → St → Option (Value × St)}
theorem goK_ok (hD : DrawOk P G) (hK : Known P G V K) : ∀ n, IhOk P G V (goK P G K n)
  | 0 => ⟨fun h => (by cases h), fun h => (by cases h)⟩
  | n + 1 => ⟨fun h _ _ _ _ _ hbG hw ha hr => code_ok hD (goK_ok hD hK n) h hbG hw ha hr, fun {f args s v s2} h b ρ w args' hbG hw ha cs => by
    have h' : (match K f args s with | some r => Rs.ok r.1 r.2 | none => stepCall P G (goK P G K n) f args s) = .ok v s2 := h
    cases hk : K f args s with
    | none => rw [hk] at h'; exact call_ok (goK_ok hD hK n) h' hbG hw ha cs
    | some u =>
      rw [hk] at h'
      injection h' with e1 e2
      subst e1; subst e2
      exact hK hk hbG hw ha cs⟩
theorem runU_of_goK (hD : DrawOk P G) (hK : Known P G V K) {n : Nat} {f : FuncId} {args : List Value} {s s2 : St} {v : Value} (h : (goK P G K n).call f args s = .ok v s2) {ρ : Ren} {w : World} {args' : List Value} (hw : WRel P ⟨G, w.heap.size, w, V, fun _ => False⟩ ρ s w) (ha : LRel ρ args args') (hv : flat v = true) :
    CallsU P f ⟨args'⟩ w v := by
  intro cs
  obtain ⟨ρ', v', w', g1, g2, fr, g3, g4, g5⟩ := (goK_ok hD hK n).call h rfl hw ha cs
  have := flat_eq g2 hv
  subst this
  exact ⟨.returned v', w', fr, ⟨rfl, g1.rel.below⟩, g3, g4, g5⟩

/-! ### The start -/
def firstRow : List Value := (List.range 256).map fun i => .int .u8 ((Lib.firstT i : Nat))
def accRow : List Value := (List.range 16).flatMap fun i => [.int .u8 (Lib.accLo i : Nat), .int .u8 (Lib.accHi i : Nat)]
noncomputable def start0 (G f a : Nat) : St := { heap := (Tr.set .nil f (.tab firstRow)).set a (.tab accRow), next := G }
def startR (G V : Nat) : Ren := fun i => if i < G then some ⟨i, if i + 1 = G then V else 0, 0⟩ else none
theorem accRow_at : ∀ j, j < 32 → accRow[j]? = some (if j % 2 = 0 then .int .u8 (Lib.accLo (j / 2) : Nat) else .int .u8 (Lib.accHi (j / 2) : Nat)) := by
  intro j hj
  have : j = 0 ∨ j = 1 ∨ j = 2 ∨ j = 3 ∨ j = 4 ∨ j = 5 ∨ j = 6 ∨ j = 7 ∨ j = 8 ∨ j = 9 ∨ j = 10 ∨ j = 11 ∨ j = 12 ∨ j = 13 ∨ j = 14 ∨ j = 15 ∨ j = 16 ∨ j = 17 ∨ j = 18 ∨ j = 19 ∨ j = 20 ∨ j = 21 ∨ j = 22 ∨ j = 23 ∨ j = 24 ∨ j = 25 ∨ j = 26 ∨ j = 27 ∨ j = 28 ∨ j = 29 ∨ j = 30 ∨ j = 31 := by omega
  rcases this with h | h | h | h | h | h | h | h | h | h | h | h | h | h | h | h | h | h | h | h | h | h | h | h | h | h | h | h | h | h | h | h <;> subst h <;> rfl
theorem flat_int (k : IntKind) (n : Int) : VRel ρ (.int k n) (.int k n) := .int k n
/-- A machine whose tables lie. -/
theorem start_rel {f a : Nat} (hf : f + 1 < G) (ha : a + 1 < G) (hne : f ≠ a) (hT : Lib.Utf8Tabs f a w) : WRel P ⟨G, w.heap.size, w, V, fun _ => False⟩ (startR G V) (start0 G f a) w := by
  have hget : ∀ i, (start0 G f a).heap.get i = if i = a then some (.tab accRow) else if i = f then some (.tab firstRow) else none := fun i => by
    unfold start0
    dsimp only
    rw [Tr.get_set, Tr.get_set]
    rfl
  have hcells : ∀ (g : Nat) (cs : List Value), g < G → 0 < cs.length → (∀ (j : Nat) (v : Value), cs[j]? = some v → w.cell? ⟨g, j, none⟩ = some v ∧ flat v = true) → ∀ (ρ : Ren), ∃ o', w.heap[g]? = some o' ∧ ORel P ρ ⟨g, 0, 0⟩ (.tab cs) o' := fun g cs hg hl h ρ => by
    obtain ⟨h0, _⟩ := h 0 cs[0] (List.getElem?_eq_getElem hl)
    unfold World.cell? at h0
    dsimp only at h0
    cases ho : w.heap[g]? with
    | none => rw [ho] at h0; cases h0
    | some o =>
      cases o with
      | cells c e fz =>
        refine ⟨_, rfl, c, e, fz, rfl, fun j v hj => ⟨v, ?_, flat_refl ρ (h j v hj).2⟩⟩
        have := (h j v hj).1
        unfold World.cell? at this
        rw [ho] at this
        simpa using this
      | _ => rw [ho] at h0; cases h0
  refine ⟨fun i o l hi hd hl => ?_, fun i j o o' l l' hne hi hd hj hd' hl hl' => ?_, fun i l hl => ?_, fun i hi => ?_, fun i l hi hl => ?_, fun g hg => ?_, Nat.le_refl _, Nat.le_refl _, .refl _ _, fun _ _ _ _ _ _ _ h => h, fun _ h => h.elim⟩
  · rw [hget] at hi
    unfold startR at hl
    split at hl
    · injection hl with hl
      subst hl
      split at hi
      · rename_i he
        subst he
        injection hi with hi
        subst hi
        rw [if_neg (show ¬ i + 1 = G by omega)]
        refine hcells i accRow (by omega) (by decide) (fun j v hj => ?_) _
        have hj32 : j < 32 := by
          have := (List.getElem?_eq_some_iff.1 hj).1
          have e : accRow.length = 32 := by decide
          omega
        rw [accRow_at j hj32] at hj
        injection hj with hj
        have h2 := hT.2 (j / 2) (by omega)
        by_cases hm : j % 2 = 0
        · rw [if_pos hm] at hj
          subst hj
          have : 2 * (j / 2) = j := by omega
          rw [this] at h2
          exact ⟨h2.1, rfl⟩
        · rw [if_neg hm] at hj
          subst hj
          have : 2 * (j / 2) + 1 = j := by omega
          rw [this] at h2
          exact ⟨h2.2, rfl⟩
      · split at hi
        · rename_i he
          subst he
          injection hi with hi
          subst hi
          rw [if_neg (show ¬ i + 1 = G by omega)]
          refine hcells i firstRow (by omega) (by unfold firstRow; simp) (fun j v hj => ?_) _
          have hj256 : j < 256 := by
            have := (List.getElem?_eq_some_iff.1 hj).1
            unfold firstRow at this
            simpa using this
          unfold firstRow at hj
          rw [List.getElem?_map, List.getElem?_range hj256] at hj
          injection hj with hj
          subst hj
          exact ⟨hT.1 j hj256, rfl⟩
        · cases hi
    · cases hl
  · unfold startR at hl hl'
    split at hl
    · split at hl'
      · injection hl with hl; injection hl' with hl'
        subst hl; subst hl'
        exact hne
      · cases hl'
    · cases hl
  · unfold startR at hl
    split at hl
    · assumption
    · cases hl
  · have hi' : G ≤ i := hi
    rw [hget, if_neg (by omega), if_neg (by omega)]
  · unfold startR at hl
    rw [if_neg (by have : G ≤ i := hi; omega)] at hl
    cases hl
  · unfold startR
    exact if_pos hg
end
end Go.Proofs.YtdhkebolenbpiaaGreatDoor.X

namespace Go.Proofs.YtdhkebolenbpiaaGreatDoor.X
open Go.RowKit

/-! ### Calls without arguments that are known to return true -/
noncomputable def tabsHere (f a : Nat) (s : St) : Bool :=
  match s.heap.get f, s.heap.get a with
  | some (.tab x), some (.tab y) => sames x firstRow && sames y accRow
  | _, _ => false
noncomputable def KA (fs : List FuncId) (f a : Nat) (g : FuncId) (args : List Value) (s : St) : Option (Value × St) :=
  match args with
  | [] => bif fs.any (Nat.beq g) then bif tabsHere f a s then some (.bool true, s) else none else none
  | _ => none
def okTrue : Rs Value → Bool
  | .ok (.bool true) _ => true
  | _ => false
theorem okTrue_ok {r : Rs Value} (h : okTrue r = true) : ∃ s, r = .ok (.bool true) s := by
  unfold okTrue at h
  split at h
  · exact ⟨_, rfl⟩
  · cases h

section
variable {P : Program} {G V : Nat} {b : Base} {ρ : Ren} {s : St} {w : World}
theorem firstRow_at (c : Nat) (h : c < 256) : firstRow[c]? = some (.int .u8 (Lib.firstT c : Nat)) := by
  unfold firstRow
  rw [List.getElem?_map, List.getElem?_range h]; rfl
theorem int_rel {k : IntKind} {n : Int} {v : Value} (h : VRel ρ (.int k n) v) : v = .int k n := by cases h; rfl
theorem tabs_of {f a : Nat} (hf : f + 1 < b.G) (ha : a + 1 < b.G) (hw : WRel P b ρ s w) (h : tabsHere f a s = true) : Lib.Utf8Tabs f a w := by
  have key : ∀ (g : Nat) (cs : List Value), g + 1 < b.G → s.heap.get g = some (.tab cs) → ∀ (j : Nat) (k : IntKind) (n : Int), cs[j]? = some (.int k n) → w.cell? ⟨g, j, none⟩ = some (.int k n) := fun g cs hg hget j k n hj => by
    obtain ⟨o', ho, c, e, fz, rfl, hr⟩ := hw.heap g _ _ hget (by simp) (hw.globU hg)
    obtain ⟨v', h1, h2⟩ := hr j _ hj
    have := int_rel h2
    subst this
    simp only [World.cell?]
    dsimp only at ho
    rw [ho]
    simpa using h1
  unfold tabsHere at h
  split at h
  · rename_i x y hx hy
    simp only [Bool.and_eq_true] at h
    have h1 := sames_eq h.1
    have h2 := sames_eq h.2
    subst h1; subst h2
    refine ⟨fun c hc => key f _ hf hx c _ _ (firstRow_at c hc), fun i hi => ⟨key a _ ha hy _ _ _ ?_, key a _ ha hy _ _ _ ?_⟩⟩
    · rw [accRow_at _ (by omega), if_pos (by omega)]
      have : 2 * i / 2 = i := by omega
      rw [this]
    · rw [accRow_at _ (by omega), if_neg (by omega)]
      have : (2 * i + 1) / 2 = i := by omega
      rw [this]
  · cases h
theorem known_KA {fs : List FuncId} {f a : Nat} (hf : f + 1 < G) (ha : a + 1 < G) (h : ∀ g ∈ fs, ∀ w, Lib.Utf8Tabs f a w → CallsU P g #[] w (.bool true)) : Known P G V (KA fs f a) := by
  intro g args s v s2 hk b ρ w args' hbG hw hl cs
  injection hbG with hbG hbV
  subst hbG; subst hbV
  unfold KA at hk
  cases hl with
  | cons => cases hk
  | nil =>
    dsimp only at hk
    cases h1 : fs.any (Nat.beq g) with
    | false => rw [h1] at hk; cases hk
    | true =>
      rw [h1] at hk
      cases h2 : tabsHere f a s with
      | false => rw [h2] at hk; cases hk
      | true =>
        rw [h2] at hk
        injection hk with hk
        injection hk with hk1 hk2
        subst hk1; subst hk2
        obtain ⟨x, hx, h3⟩ := List.any_eq_true.1 h1
        have := Nat.eq_of_beq_eq_true h3
        subst this
        exact known_flat hw rfl (h g hx w (tabs_of hf ha hw h2)) cs
/-- A call that returns true wherever the tables lie: whatever is known, symbols among the arguments. -/
theorem true_of_runK (hm : P.follows .mixedOrders = true) {K : FuncId → List Value → St → Option (Value × St)} (hK : Known P G V K) {f a n : Nat} (hf : f + 1 < G) (ha : a + 1 < G) (hne : f ≠ a) {g : FuncId} {args args' : List Value}
    (hrun : okTrue ((goK P G K n).call g args (start0 G f a)) = true) (hargs : LRel (startR G V) args args') : ∀ w, Lib.Utf8Tabs f a w → CallsU P g ⟨args'⟩ w (.bool true) := by
  intro w hT
  obtain ⟨s2, hr⟩ := okTrue_ok hrun
  exact runU_of_goK (draw_ok hm G) hK hr (start_rel hf ha hne hT) hargs rfl
theorem sym_relB {b : Nat} (h0 : sOff b = 0) (hb : b ≠ 0 → (sLo b : Int) ≤ symI V ∧ symI V ≤ (sHi b : Int)) : VRel (startR (G + 1) V) (.complex .f32 G b) (.int .i64 (symI V)) :=
  .sym G b ⟨G, V, 0⟩ (symI V) (by unfold startR; rw [if_pos (by omega), if_pos rfl]) ⟨by rw [h0]; simp, hb⟩
theorem sym_rel (_ : Nat) : VRel (startR (G + 1) V) (.complex .f32 G 0) (.int .i64 (symI V)) := sym_relB rfl fun h => absurd rfl h
/-- A CLOSED CALL that returns true wherever the tables lie. -/
theorem true_of_run (hm : P.follows .mixedOrders = true) {fs : List FuncId} {f a n : Nat} (hf : f + 1 < G) (ha : a + 1 < G) (hne : f ≠ a) (h : ∀ g ∈ fs, ∀ w, Lib.Utf8Tabs f a w → CallsU P g #[] w (.bool true)) {g : FuncId} {args : List Value}
    (hrun : okTrue ((goK P G (KA fs f a) n).call g args (start0 G f a)) = true) (hargs : args.all flat = true) : ∀ w, Lib.Utf8Tabs f a w → CallsU P g ⟨args⟩ w (.bool true) := by
  intro w hT
  obtain ⟨s2, hr⟩ := okTrue_ok hrun
  refine runU_of_goK (draw_ok hm G) (known_KA hf ha h) hr (start_rel (V := 0) hf ha hne hT) ?_ rfl
  clear hrun hr
  induction args with
  | nil => exact .nil
  | cons x l ih =>
    simp only [List.all_cons, Bool.and_eq_true] at hargs
    exact .cons _ _ _ _ (flat_refl _ hargs.1) (ih hargs.2)
end
end Go.Proofs.YtdhkebolenbpiaaGreatDoor.X
