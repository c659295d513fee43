/- A runner for closed calls, part 5: Yg Yh Yi Yj. -/
import Derived.Test.YtdhkebolenbpiaaGreatDoorKnd
import Derived.Laws.Tables
import Derived.Laws.BytesString
import Derived.Great.BuildSlice
import Derived.Laws.MakeOwn
import Derived.Laws.Append
import Derived.Lib.AppendZerosOnto
namespace Go.Proofs.YtdhkebolenbpiaaGreatDoor.X
open Go.RowKit

section
variable {P : Program} {b : Base} {ρ : Ren} {s : St} {w : World}

theorem wrap_u8 (x : Nat) : IntKind.u8.wrap (x : Int) = ((x % 2 ^ 8 : Nat) : Int) := by
  simp only [IntKind.wrap, IntKind.bits, IntKind.signed]
  simp
theorem fldConv_ok {k : IntKind} {i n : Nat} {l : Loc} {v : Value} (h : fldConv k i n = some v) (g : isFld n = true) (hl : ρ i = some l) : ∃ x : Int, svV n l.sh = .int (nK n) x ∧ VRel ρ v (.int k (k.wrap x)) := by
  unfold fldConv at h
  obtain ⟨_, _, g3⟩ := isFld_num g
  have hc := clamp_in g3 (fldQ (nQ n) l.sh / 2 ^ nSh n % 2 ^ nW n)
  cases hb : Nat.ble (nHi n) (mxK k) with
  | true =>
    rw [hb] at h
    simp only [cond_true] at h
    have hb := Nat.le_of_ble_eq_true hb
    obtain ⟨n', rfl, f0, f1, f2, f3, f4, f5, f6⟩ := mkN_ok h
    refine ⟨_, sv_fld l.sh g, .sstr i n' l _ hl ?_⟩
    rw [sv_fld l.sh f0, f1, f2, f3, f4, f5, f6, mx_wrap k _ (by omega)]
  | false =>
    rw [hb] at h
    simp only [cond_false] at h
    obtain ⟨g2, hq⟩ := bif_some h
    clear h
    simp only [Bool.and_eq_true, decide_eq_true_eq] at g2
    obtain ⟨rfl, ⟨e0, e1⟩, e2⟩ := g2
    have e0 := Nat.eq_of_beq_eq_true e0
    have e1 := Nat.eq_of_beq_eq_true e1
    have e2 := Nat.le_of_ble_eq_true e2
    obtain ⟨n', rfl, f0, f1, f2, f3, f4, f5, f6⟩ := mkN_ok hq
    refine ⟨_, sv_full l.sh g e0 e1, .sstr i n' l _ hl ?_⟩
    have e := sv_full l.sh f0 f2 (by rw [f3, f4])
    rw [f1, f4, f5, f6] at e
    rw [e, wrap_u8, Nat.mod_mod_of_dvd _ (Nat.pow_dvd_pow 2 e2)]
theorem convF_ok {k : IntKind} {a a' v : Value} {s' : St} (h : convF k a s = .ok v s') (ha : VRel ρ a a') : ∃ (k' : IntKind) (x : Int), a' = .int k' x ∧ s' = s ∧ VRel ρ v (.int k (k.wrap x)) := by
  unfold convF at h
  split at h
  · rename_i i n
    cases hg : isFld n with
    | false => rw [hg] at h; exact convR_ok h ha
    | true =>
      rw [hg] at h
      simp only [cond_true] at h
      split at h
      · rename_i u hu
        injection h with e1 e2
        subst e1; subst e2
        have ha0 := ha
        cases ha
        rename_i l hl hv
        obtain ⟨x, h1, h2⟩ := fldConv_ok hu hg hl
        exact ⟨_, x, hv.trans h1, rfl, h2⟩
      · exact convR_ok h ha
  · exact convR_ok h ha
theorem doIndex_ok {t : TypeId} {x x' i i' v : Value} {s' : St} (h : doIndex P t x i s = .ok v s') (hx : VRel ρ x x') (hi : VRel ρ i i') : s' = s ∧ QOk P ρ w v (Instr.index t x' i') := by
  unfold doIndex at h
  cases hu : P.underlying t with
  | none => rw [hu] at h; cases h
  | some d =>
    rw [hu] at h
    cases d <;> first | (cases h; done) | skip
    case array n e =>
      cases hx <;> first | (cases h; done) | skip
      cases hi <;> first | (cases h; done) | skip
      rename_i a a' ha k m
      dsimp only at h
      obtain ⟨z, hz, h⟩ := ofO_ok h
      obtain ⟨h1, h⟩ := bif_ok h
      simp only [Bool.and_eq_true, decide_eq_true_eq] at h1
      obtain ⟨h2, u', h3, h4⟩ := partOf_ok (w := w) h ha
      refine ⟨h2, u', h3, ?_⟩
      simp [Instr.index, asIntOf, xu hu, h1, xs hz, h4]
    case string =>
      cases hx <;> first | (cases h; done) | skip
      case txt c hk =>
        cases hi <;> first | (cases h; done) | skip
        rename_i k m
        dsimp only at h
        obtain ⟨h1, h⟩ := bif_ok h
        simp only [Bool.and_eq_true, decide_eq_true_eq] at h1
        have g0 := Nat.eq_of_beq_eq_true h1.1
        obtain ⟨p, hp, h⟩ := ofO_ok h
        rw [nth_eq] at hp
        obtain ⟨bs, rfl, hbs⟩ : ∃ bs : ByteArray, x' = .string bs ∧ TR (tL c) bs.data.toList := by
          rcases hk with ⟨_, bs, e, hb⟩ | ⟨e, _⟩ | ⟨e, _⟩
          · exact ⟨bs, e, hb⟩
          · omega
          · omega
        obtain ⟨y, hy, y1, y2⟩ := TR_get hbs hp
        obtain ⟨e, hv⟩ := mkR_ok (ρ := ρ) h y1 y2
        refine ⟨e, _, hv, ?_⟩
        have hg : bs[m.toNat]? = some y := by
          rw [Array.getElem?_toList] at hy
          obtain ⟨hl, he⟩ := Array.getElem?_eq_some_iff.1 hy
          have hl' : m.toNat < bs.size := hl
          rw [getElem?_pos bs m.toNat hl']
          exact congrArg some he
        simp [Instr.index, asIntOf, xu hu, h1.2, hg]
      case sstr i n l hl hv =>
        cases hi <;> first | (cases h; done) | skip
        rename_i k m
        dsimp only at h
        obtain ⟨h1, h⟩ := bif_ok h
        simp only [Bool.and_eq_true, decide_eq_true_eq] at h1
        obtain ⟨d, hd, h⟩ := ofO_ok h
        obtain ⟨u, hu2, h⟩ := ofO_ok h
        injection h with e1 e2
        subst e1; subst e2
        rw [nth_eq] at hd
        rw [sv_txt l.sh h1.1] at hv
        subst hv
        refine ⟨rfl, _, itemV_ok hu2 hl, ?_⟩
        have hg : (txtB n l.sh)[m.toNat]? = some (itemB l.sh d) := by
          have hy : (txtB n l.sh).data.toList[m.toNat]? = some (itemB l.sh d) := by
            show ((tItems n).map (itemB l.sh))[m.toNat]? = _
            rw [List.getElem?_map, hd]; rfl
          rw [Array.getElem?_toList] at hy
          obtain ⟨hl, he⟩ := Array.getElem?_eq_some_iff.1 hy
          have hl' : m.toNat < (txtB n l.sh).size := hl
          rw [getElem?_pos (txtB n l.sh) m.toNat hl']
          exact congrArg some he
        simp [Instr.index, asIntOf, xu hu, h1.2, hg]
      cases hi <;> first | (cases h; done) | skip
      rename_i bs k m
      dsimp only at h
      obtain ⟨h1, h⟩ := bif_ok h
      obtain ⟨c, hc, h⟩ := ofO_ok h
      injection h with e1 e2
      subst e1; subst e2
      rw [nth_eq] at hc
      have h1' : 0 ≤ m := by simpa using h1
      refine ⟨rfl, _, .int _ _, ?_⟩
      have hg : bs[m.toNat]? = some c := by
        rw [Array.getElem?_toList] at hc
        obtain ⟨hl, he⟩ := Array.getElem?_eq_some_iff.1 hc
        have hl' : m.toNat < bs.size := hl
        rw [getElem?_pos bs m.toNat hl']
        exact congrArg some he
      simp [Instr.index, asIntOf, xu hu, h1', hg]

theorem doExtract_ok {x x' v : Value} {i : Nat} {vs : List Value} (hx : x = .tuple ⟨vs⟩) (hv : nth vs i = some v) (h : VRel ρ x x') : QOk P ρ w v (Instr.extract x' i) := by
  subst hx
  cases h
  rename_i a ha
  rw [nth_eq] at hv
  obtain ⟨v', h1, h2⟩ := ha.get hv
  exact ⟨v', h2, by simp [Instr.extract, h1]⟩

theorem lenAny_eq (q : Nat) : lenAny (.chan (some (q + 1))) s = bif Nat.ble (q + 1) 1 then .no 98 1 else bif Nat.beq (q % 2) 1 then mkR .i64 0 (q / 2) s else mkR .i64 (q / 2) 9223372036854775807 s := by
  unfold lenAny
  simp only [Nat.add_sub_cancel]
theorem lenA_hi {q n : Nat} {v : Value} {s' : St} (h : (bif Nat.ble (q + 1) 1 then .no 98 1 else bif Nat.beq (q % 2) 1 then mkR .i64 0 (q / 2) s else mkR .i64 (q / 2) 9223372036854775807 s) = Rs.ok v s') (hb : n ≤ 9223372036854775807) (h0 : q / 2 ≤ n) (hm : Nat.beq (q % 2) 1 = false) (hq : Nat.ble (q + 1) 1 = false) : s' = s ∧ VRel ρ v (.int .i64 (n : Int)) := by
  rw [hq, cond_false, hm, cond_false] at h
  exact mkR_ok h h0 hb
theorem lenA_lo {q n : Nat} {v : Value} {s' : St} (h : (bif Nat.ble (q + 1) 1 then .no 98 1 else bif Nat.beq (q % 2) 1 then mkR .i64 0 (q / 2) s else mkR .i64 (q / 2) 9223372036854775807 s) = Rs.ok v s') (h0 : n ≤ q / 2) (hm : Nat.beq (q % 2) 1 = true) (hq : Nat.ble (q + 1) 1 = false) : s' = s ∧ VRel ρ v (.int .i64 (n : Int)) := by
  rw [hq, cond_false, hm, cond_true] at h
  exact mkR_ok h (Nat.zero_le n) h0
theorem lenAny_ok {q n : Nat} {v : Value} {s' : St} (h : lenAny (.chan (some (q + 1))) s = .ok v s') (hb : n ≤ 9223372036854775807 ∧ (q = 0 ∨ if q % 2 = 1 then n ≤ q / 2 else q / 2 ≤ n)) : s' = s ∧ VRel ρ v (.int .i64 (n : Int)) := by
  rw [lenAny_eq] at h
  obtain ⟨hb1, hb2⟩ := hb
  have h0 : Nat.ble (q + 1) 1 = false → q ≠ 0 := fun hq e => by subst e; exact absurd hq (by decide)
  by_cases hq : Nat.ble (q + 1) 1 = true
  · rw [hq, cond_true] at h; cases h
  · have hq := Bool.not_eq_true _ ▸ hq
    have hb3 := hb2.resolve_left (h0 hq)
    by_cases hm : q % 2 = 1
    · rw [if_pos hm] at hb3
      exact lenA_lo h hb3 (by rw [hm]; rfl) hq
    · rw [if_neg hm] at hb3
      exact lenA_hi h hb1 hb3 (Bool.eq_false_iff.2 fun e => hm (Nat.eq_of_beq_eq_true e)) hq
theorem doLen_ok {ts : Array TypeId} {ty : TypeId} {args args' : List Value} {v : Value} {s' : St} (h : doLen P ts.toList args s = .ok v s') (ha : LRel ρ args args') (hw : WRel P b ρ s w) : s' = s ∧ QOk P ρ w v (Builtin.len_ ts ty ⟨args'⟩) := by
  unfold doLen at h
  obtain ⟨ts⟩ := ts
  cases ts with
  | nil => cases h
  | cons t r =>
    cases ha with
    | nil => cases h
    | cons x x' l l' hx hl =>
      cases hl with
      | cons _ _ _ _ _ _ => cases h
      | nil =>
        dsimp only at h
        cases hu : P.underlying t with
        | none => rw [hu] at h; cases h
        | some d =>
          rw [hu] at h
          cases d <;> first | (cases h; done) | skip
          case string =>
            cases hx <;> first | (cases h; done) | skip
            case txt c hk =>
              obtain ⟨h1, h⟩ := bif_ok h
              have g0 := Nat.eq_of_beq_eq_true h1
              injection h with e1 e2
              subst e1; subst e2
              obtain ⟨bs, rfl, hbs⟩ : ∃ bs : ByteArray, x' = .string bs ∧ TR (tL c) bs.data.toList := by
                rcases hk with ⟨_, bs, e, hb⟩ | ⟨e, _⟩ | ⟨e, _⟩
                · exact ⟨bs, e, hb⟩
                · omega
                · omega
              have hlen : lenL (tL c) = bs.size := by rw [lenL_eq]; exact TR_len hbs
              rw [hlen]
              exact ⟨rfl, _, .int _ _, by simp [Builtin.len_, xu hu, goInt]⟩
            case sstr i n l hl hv =>
              obtain ⟨m, hm, h⟩ := ofO_ok h
              injection h with e1 e2
              subst e1; subst e2
              obtain ⟨bs, e, hs⟩ := lenC_ok l.sh hm
              rw [e] at hv
              subst hv
              exact ⟨rfl, _, .int _ _, by simp [Builtin.len_, xu hu, goInt, hs]⟩
            all_goals
              injection h with e1 e2
              subst e1; subst e2
              exact ⟨rfl, _, .int _ _, by first | (simp [Builtin.len_, xu hu, goInt]; done) | (simp [Builtin.len_, xu hu, goInt]; rw [lenL_eq]; rfl)⟩
          case array n e =>
            injection h with e1 e2
            subst e1; subst e2
            refine ⟨rfl, _, .int _ _, ?_⟩
            cases hx <;> first
              | (rename_i i n l hl hv; rcases sv_forms n l.sh with ⟨b, e⟩ | ⟨_, _, e⟩ <;> (rw [e] at hv; subst hv; simp [Builtin.len_, xu hu, goInt]))
              | (rename_i hk; rcases TOk.forms hk with ⟨b, rfl⟩ | ⟨x, rfl⟩ | rfl | ⟨t, u, rfl⟩ <;> simp [Builtin.len_, xu hu, goInt])
              | simp [Builtin.len_, xu hu, goInt]
          case slice e =>
            cases hx <;> first | (cases h; done) | skip
            case anyS q a n c hb =>
              have hrun : (Builtin.len_ ⟨t :: r⟩ ty ⟨[.slice a n c]⟩).run P w = .ok (.int .i64 (n : Int)) w := by simp [Builtin.len_, xu hu, goInt]
              obtain ⟨e1, e2⟩ := lenAny_ok (ρ := ρ) h hb
              exact ⟨e1, _, e2, hrun⟩
            all_goals
              injection h with e1 e2
              subst e1; subst e2
              exact ⟨rfl, _, .int _ _, by simp [Builtin.len_, xu hu, goInt]⟩
          case map k e =>
            cases hx <;> first | (cases h; done) | skip
            · injection h with e1 e2
              subst e1; subst e2
              exact ⟨rfl, _, .int _ _, by simp [Builtin.len_, xu hu, goInt]⟩
            · rename_i r k' hr
              dsimp only at h
              obtain ⟨m, hm, h⟩ := ofO_ok h
              injection h with e1 e2
              subst e1; subst e2
              unfold mapOf at hm
              cases hg : s.heap.get r with
              | none => rw [hg] at hm; cases hm
              | some o =>
                rw [hg] at hm
                cases o <;> first | (cases hm; done) | skip
                rename_i o
                cases o <;> first | (cases hm; done) | skip
                rename_i entries clk
                injection hm with hm
                subst hm
                obtain ⟨o', h1, _, es', rfl, he⟩ := hw.heap _ _ _ hg (by simp) hr
                refine ⟨rfl, _, .int _ _, ?_⟩
                have hlen : ∀ {l l' : List MapEntry}, ERel ρ l l' → l.length = l'.length := by
                  intro l l' h
                  induction h with
                  | nil => rfl
                  | cons _ _ _ _ _ _ ih => simp [ih]
                have := hlen he
                have this' : (es'.length : Int) = (entries.size : Int) := by rw [← this]; simp
                simp [Builtin.len_, xu hu, goInt, getObj, Sem.run, h1, this']

theorem toBytes_cons (v : Value) (l : List Value) : toBytes (v :: l) = (match v, toBytes l with | .int .u8 n, some r => some (UInt8.ofNat n.toNat :: r) | _, _ => none) := rfl
theorem toBytes_ok : ∀ {l : List Value} {bs : List UInt8}, toBytes l = some bs → ∃ ns : List Int, l = ns.map (Value.int .u8) ∧ bs = ns.map fun n => UInt8.ofNat n.toNat
  | [], bs, h => ⟨[], rfl, by simpa [toBytes] using h.symm⟩
  | v :: l, bs, h => by
    rw [toBytes_cons] at h
    cases v <;> first | (simp at h; done) | skip
    rename_i k n
    cases k <;> first | (simp at h; done) | skip
    cases hl : toBytes l with
    | none => rw [hl] at h; simp at h
    | some r =>
      rw [hl] at h
      simp only [Option.some.injEq] at h
      subst h
      obtain ⟨ns, rfl, rfl⟩ := toBytes_ok hl
      exact ⟨n :: ns, rfl, rfl⟩
theorem push_all : ∀ (ns : List Int) (acc : ByteArray), ns.foldl (fun (r : ByteArray) n => r.push (UInt8.ofNat n.toNat)) acc = ⟨acc.data ++ ⟨ns.map fun n => UInt8.ofNat n.toNat⟩⟩
  | [], acc => by simp
  | n :: ns, acc => by
    rw [List.foldl_cons, push_all ns]
    congr 1
    apply Array.ext'
    simp [ByteArray.push]
theorem flats_ints (ns : List Int) (k : IntKind) : flats (ns.map (Value.int k)) = true := by
  induction ns with
  | nil => rfl
  | cons n ns ih => simpa [flats, flat] using ih

theorem rowOf_ok {n size : Nat} {a a' : Addr} {l : List Value} (h : rowOf n size a s = some l) (ha : ARel ρ a a') (hw : WRel P b ρ s w) : ∃ l', LRel ρ l l' ∧ l'.length = n * size ∧ (loadCells a' (n * size)).run P w = .ok ⟨l'⟩ w := by
  unfold rowOf at h
  cases hr : getRow s a with
  | none => rw [hr] at h; cases h
  | some x =>
    obtain ⟨cs, e, lo⟩ := x
    rw [hr] at h
    dsimp only at h
    rw [takeL_eq, dropL_eq, lenL_eq] at h
    cases hb : Nat.beq ((cs.drop a.off).take (n * size)).length (n * size) with
    | false => rw [hb] at h; cases h
    | true =>
      rw [hb] at h
      injection h with h
      subst h
      obtain ⟨k, c, fz, hk, rfl, hg, hc, hrr⟩ := hw.row hr ha
      obtain ⟨h4, h5⟩ := row_sub hrr (n * size) a.off (Nat.eq_of_beq_eq_true hb)
      exact ⟨_, h4, h5, run_cells hc h5⟩

/-- What is turned into another type, but for bytes of a string. -/
theorem doConvert_ok {src dst : TypeId} {x x' v : Value} {s' : St} (h : doConvert P src dst x s = .ok v s') (hx : VRel ρ x x') (hw : WRel P b ρ s w) (hn : ∀ e, P.underlying dst ≠ some (.slice e)) :
    s' = s ∧ QOk P ρ w v (convert src dst x') := by
  have hflat : doFlat P x (convert src dst x) s = .ok v s' → s' = s ∧ QOk P ρ w v (convert src dst x') := fun h => by
    obtain ⟨h1, h2, h3⟩ := doFlat_ok (ρ := ρ) (w := w) (_a' := x') h
    rw [flat_eq hx h2]
    exact ⟨h1, h3⟩
  unfold doConvert at h
  cases hd : P.underlying dst with
  | none => rw [hd] at h; exact hflat h
  | some d =>
    rw [hd] at h
    cases d <;> first | exact absurd hd (hn _) | exact hflat h | skip
    case int k =>
      dsimp only at h
      cases hfl : flat x with
      | true => rw [hfl] at h; exact hflat h
      | false =>
        rw [hfl] at h
        simp only [cond_false] at h
        cases hsrc : P.underlying src with
        | none => rw [hsrc] at h; cases h
        | some d =>
          rw [hsrc] at h
          dsimp only at h
          cases hsy : (isSym x && decide (k = .i64)) with
          | true =>
            rw [hsy] at h
            injection h with e1 e2
            subst e1; subst e2
            simp only [Bool.and_eq_true, decide_eq_true_eq] at hsy
            obtain ⟨hs1, rfl⟩ := hsy
            unfold isSym at hs1
            split at hs1
            · rename_i i z
              simp only [Bool.and_eq_true, Bool.not_eq_true'] at hs1
              have h0 : z ≠ 0 := fun e => by subst e; cases hs1.1
              have h1 := Nat.le_of_ble_eq_true hs1.2
              have hx0 := hx
              cases hx
              rename_i l u hl hu
              have hu2 := hu.2 h0
              refine ⟨rfl, _, hx0, ?_⟩
              have hwr := mx_wrap .i64 u.toNat (by show _ ≤ 9223372036854775807; omega)
              rw [Int.toNat_of_nonneg (by omega)] at hwr
              unfold convert
              simp only [Sem.run_bind, xu hsrc, xu hd, Result.andThen_ok, Conv.intToInt, hwr, Sem.run_pure]
            · cases hs1
          | false =>
            rw [hsy] at h
            simp only [cond_false] at h
            obtain ⟨k', n, rfl, e, hv⟩ := convF_ok h hx
            refine ⟨e, _, hv, ?_⟩
            unfold convert
            simp only [Sem.run_bind, xu hsrc, xu hd, Result.andThen_ok, Conv.intToInt, Sem.run_pure]
    dsimp only at h
    cases hx <;> first | (refine hflat ?_; exact h) | skip
    case sliceE a a' c c' hsp =>
      dsimp only at h
      rw [hsp] at h
      simp only [cond_true] at h
      have h : doNoBytes P src s = .ok v s' := h
      unfold doNoBytes at h
      cases hsrc : P.underlying src with
      | none => rw [hsrc] at h; cases h
      | some d =>
        rw [hsrc] at h
        cases d <;> first | (cases h; done) | skip
        rename_i e
        dsimp only at h
        cases he : P.underlying e with
        | none => rw [he] at h; cases h
        | some d2 =>
          rw [he] at h
          cases d2 <;> first | (cases h; done) | skip
          rename_i k
          cases k <;> first | (cases h; done) | skip
          injection h with e3 e4
          subst e3; subst e4
          refine ⟨rfl, _, .string _, ?_⟩
          rw [run_convert_bytes_string w src dst e (some a') 0 c' hsrc he hd, run_bytesToString w a' 0 c' [] rfl, push_all]
          congr 3
    case slice a a' n c c' ha hc =>
      dsimp only at h
      rw [ha.1] at h
      simp only [Option.isSome_none, cond_false] at h
      unfold doToString at h
      cases hsrc : P.underlying src with
      | none => rw [hsrc] at h; cases h
      | some d =>
        rw [hsrc] at h
        cases d <;> first | (cases h; done) | skip
        rename_i e
        dsimp only at h
        cases he : P.underlying e with
        | none => rw [he] at h; cases h
        | some d2 =>
          rw [he] at h
          cases d2 <;> first | (cases h; done) | skip
          rename_i k
          cases k <;> first | (cases h; done) | skip
          dsimp only at h
          obtain ⟨l, hl, h⟩ := ofO_ok h
          cases hbs : toBytes l with
          | none =>
            rw [hbs] at h
            dsimp only at h
            cases hfl : txtOfFlds l with
            | some v2 =>
              rw [hfl] at h
              dsimp only at h
              injection h with e3 e4
              subst e3; subst e4
              obtain ⟨l', h1, h2, h3⟩ := rowOf_ok hl ha hw
              rw [Nat.mul_one] at h3
              obtain ⟨bs, hv2, rfl⟩ := txtOfFlds_ok hfl h1
              refine ⟨rfl, _, hv2, ?_⟩
              have h3 : (loadCells a' n).run P w = .ok ⟨(bs.data.toList.map fun b => ((b.toNat : Nat) : Int)).map (Value.int .u8)⟩ w := by rw [List.map_map]; exact h3
              rw [run_convert_bytes_string w src dst e (some a') n c' hsrc he hd, run_bytesToString w a' n c' _ h3, push_all]
              congr 3
              apply Array.ext'
              simp only [ByteArray.empty, ByteArray.emptyWithCapacity, List.map_map, Array.toList_append]
              refine (List.nil_append _).trans ((List.map_congr_left (g := id) fun b _ => ?_).trans (List.map_id _))
              show UInt8.ofNat ((b.toNat : Nat) : Int).toNat = b
              simp
            | none =>
            rw [hfl] at h
            dsimp only at h
            obtain ⟨ps, hps, h⟩ := ofO_ok h
            obtain ⟨l', h1, h2, h3⟩ := rowOf_ok hl ha hw
            rw [Nat.mul_one] at h3
            obtain ⟨ns, rfl, h5⟩ := txtOfCells_ok hps h1
            have hx5 : TR ps (⟨⟨ns.map fun n => UInt8.ofNat n.toNat⟩⟩ : ByteArray).data.toList := h5
            obtain ⟨es, hv⟩ := mkTxt_ok (ρ := ρ) h hx5
            refine ⟨es, _, hv, ?_⟩
            rw [run_convert_bytes_string w src dst e (some a') n c' hsrc he hd, run_bytesToString w a' n c' ns h3, push_all]
            congr 3
            apply Array.ext'
            simp [ByteArray.empty, ByteArray.emptyWithCapacity]
            rfl
          | some bs =>
          rw [hbs] at h
          dsimp only at h
          injection h with e3 e4
          subst e3; subst e4
          obtain ⟨l', h1, h2, h3⟩ := rowOf_ok hl ha hw
          rw [Nat.mul_one] at h3
          obtain ⟨ns, rfl, rfl⟩ := toBytes_ok hbs
          have hl' := flats_eq h1 (flats_ints ns .u8)
          subst hl'
          refine ⟨rfl, _, .string _, ?_⟩
          rw [run_convert_bytes_string w src dst e (some a') n c' hsrc he hd, run_bytesToString w a' n c' ns h3, push_all]
          congr 3
          apply Array.ext'
          simp [ByteArray.empty, ByteArray.emptyWithCapacity]
          rfl

/-! ### Parts laid together -/
inductive PRel (ρ : Ren) : List (Nat × Value) → List (Nat × Value) → Prop
  | nil : PRel ρ [] []
  | cons (i : Nat) (v v' : Value) (l l' : List (Nat × Value)) (h : VRel ρ v v') (t : PRel ρ l l') : PRel ρ ((i, v) :: l) ((i, v') :: l')
theorem PRel.of_map {f g : Operand → Value} : ∀ (l : List (Nat × Operand)), (∀ p ∈ l, VRel ρ (f p.2) (g p.2)) → PRel ρ (l.map fun p => (p.1, f p.2)) (l.map fun p => (p.1, g p.2))
  | [], _ => .nil
  | p :: l, h => .cons _ _ _ _ _ (h p (by simp)) (PRel.of_map l fun q hq => h q (by simp [hq]))
theorem fold_splice (off : Nat) : ∀ (vs : List Value) (k : Nat) (cells : Array Value), off + k + vs.length ≤ cells.size → (vs.zipIdx k).foldl (fun (cs : Array Value) (p : Value × Nat) => cs.setIfInBounds (off + p.2) p.1) cells = ⟨splice cells.toList (off + k) vs⟩
  | [], k, cells, _ => by simp [splice]
  | v :: vs, k, cells, h => by
    rw [List.length_cons] at h
    rw [List.zipIdx_cons, List.foldl_cons, fold_splice off vs (k + 1) _ (by simp; omega)]
    congr 1
    apply List.ext_getElem?
    intro j
    rw [splice_get (by simp; omega), splice_get (by simp; omega)]
    simp only [Array.toList_setIfInBounds, List.length_cons, List.getElem?_set, Array.length_toList]
    by_cases h1 : j < off + k
    · rw [if_pos h1, if_pos (by omega), if_neg (by omega)]
    · rw [if_neg h1]
      by_cases h2 : j = off + k
      · subst h2
        rw [if_pos (by omega), if_pos rfl, if_pos (by omega), if_pos (by omega)]
        simp
      · rw [if_neg (by omega)]
        by_cases h3 : j < off + (k + 1) + vs.length
        · rw [if_pos h3, if_pos (by omega), show j - (off + k) = (j - (off + (k + 1))) + 1 by omega, List.getElem?_cons_succ]
        · rw [if_neg h3, if_neg (by omega), if_neg (by omega)]
theorem splice_rel {cs cs' vs vs' : List Value} {off : Nat} (hc : LRel ρ cs cs') (hv : LRel ρ vs vs') : LRel ρ (splice cs off vs) (splice cs' off vs') := by
  unfold splice
  rw [← hv.length]
  exact (hc.take off).append (hv.append (hc.drop _))
theorem fill_ok {place place' : Nat → Option (Nat × Nat)} (hp : ∀ i, place' i = place i) : ∀ {parts parts' : List (Nat × Value)}, PRel ρ parts parts' → ∀ {cs cs' out : List Value}, LRel ρ cs cs' → fillL place cs parts = some out → ∃ out', Instr.fill place' ⟨cs'⟩ parts' = some ⟨out'⟩ ∧ LRel ρ out out'
  | _, _, .nil, cs, cs', out, hc, h => by
    injection h with h
    subst h
    exact ⟨cs', rfl, hc⟩
  | _, _, .cons i v v' l l' hv t, cs, cs', out, hc, h => by
    unfold fillL at h
    unfold Instr.fill
    rw [hp i]
    cases hpi : place i with
    | none => rw [hpi] at h; cases h
    | some q =>
      obtain ⟨off, size⟩ := q
      rw [hpi] at h
      dsimp only at h ⊢
      cases hb : (Nat.beq (lenL (cellsOf v)) size && Nat.ble (off + size) (lenL cs)) with
      | false => rw [hb] at h; cases h
      | true =>
        rw [hb] at h
        simp only [cond_true] at h
        simp only [Bool.and_eq_true, lenL_eq] at hb
        have h1 := Nat.eq_of_beq_eq_true hb.1
        have h2 := Nat.le_of_ble_eq_true hb.2
        subst h1
        rw [splice_eq] at h
        have hcr := cells_rel hv
        have hl1 := hcr.length
        have hl2 := hc.length
        have e0 : v'.cells.toList.length = v'.cells.size := Array.length_toList
        have hsz : ¬ (v'.cells.size ≠ (cellsOf v).length ∨ off + v'.cells.size > cs'.length) := by omega
        have hsz' : (decide (v'.cells.size ≠ (cellsOf v).length) || decide (off + v'.cells.size > (⟨cs'⟩ : Array Value).size)) = false := by
          simp only [Bool.or_eq_false_iff, decide_eq_false_iff_not]
          exact ⟨by omega, by show ¬ (off + v'.cells.size > cs'.length); omega⟩
        rw [if_neg (by simpa using hsz')]
        have hf : v'.cells.zipIdx.foldl (fun (cs : Array Value) (x : Value × Nat) => cs.setIfInBounds (off + x.2) x.1) ⟨cs'⟩ = ⟨splice cs' off v'.cells.toList⟩ := by
          rw [← Array.foldl_toList, Array.toList_zipIdx]
          have := fold_splice off v'.cells.toList 0 ⟨cs'⟩ (by show off + 0 + v'.cells.toList.length ≤ cs'.length; have e : v'.cells.toList.length = v'.cells.size := Array.length_toList; omega)
          simpa using this
        have := fill_ok hp t (splice_rel (off := off) hc hcr) h
        rw [← hf] at this
        exact this
end
end Go.Proofs.YtdhkebolenbpiaaGreatDoor.X

namespace Go.Proofs.YtdhkebolenbpiaaGreatDoor.X
open Go.RowKit

section
variable {P : Program} {b : Base} {ρ : Ren} {s : St} {w : World}

theorem zeroT_some {t : TypeId} {z : Value} (h : zeroT P t = some z) : ∃ i, P.info? t = some i ∧ i.zero = some z ∧ flat z = true := by
  unfold zeroT at h
  cases hi : P.info? t with
  | none => rw [hi] at h; cases h
  | some i =>
    rw [hi] at h
    cases hz : i.zero with
    | none => simp [hz] at h
    | some z' =>
      simp only [Option.bind_some, hz] at h
      cases hf : flat z' with
      | false => rw [hf] at h; cases h
      | true => rw [hf] at h; injection h with h; subst h; exact ⟨i, rfl, hz, hf⟩
theorem bytesT_some {t : TypeId} {n : Nat} (h : bytesT P t = some n) : ∃ i, P.info? t = some i ∧ i.bytes = n := by
  unfold bytesT at h
  cases hi : P.info? t with
  | none => rw [hi] at h; cases h
  | some i => rw [hi] at h; injection h with h; exact ⟨i, rfl, h⟩

theorem doBuild_ok {t : TypeId} {ps ps' : List (Nat × Value)} {v : Value} {s' : St} (h : doBuild P t ps s = .ok v s') (hp : PRel ρ ps ps') : s' = s ∧ QOk P ρ w v (Instr.build t ⟨ps'⟩) := by
  unfold doBuild at h
  obtain ⟨z, hz, h⟩ := ofO_ok h
  obtain ⟨i, hi, hiz, hzf⟩ := zeroT_some hz
  have hzr : LRel ρ (cellsOf z) z.cells.toList := cells_rel (flat_refl ρ hzf)
  cases hu : P.underlying t with
  | none => rw [hu] at h; cases h
  | some d =>
    rw [hu] at h
    cases d <;> first | (cases h; done) | skip
    case struct fs =>
      obtain ⟨pl, hpl, h⟩ := ofO_ok h
      obtain ⟨cs, hcs, h⟩ := ofO_ok h
      injection h with e1 e2
      subst e1; subst e2
      unfold placesT at hpl
      rw [hu] at hpl
      obtain ⟨out, h1, h2⟩ := fill_ok (place' := fun x => pl.toArray[x]?) (fun i => by rw [nth_eq]; simp) hp hzr hcs
      refine ⟨rfl, _, .agg _ _ h2, run_build w t ⟨ps'⟩ ⟨out⟩ ?_⟩
      simp only [Program.built, hi, hu, hiz, hpl]
      exact h1
    case array n e =>
      obtain ⟨m, hm, h⟩ := ofO_ok h
      obtain ⟨cs, hcs, h⟩ := ofO_ok h
      injection h with e1 e2
      subst e1; subst e2
      obtain ⟨ie, hie, rfl⟩ := szT_size hm
      obtain ⟨out, h1, h2⟩ := fill_ok (place' := fun i => some (i * ie.size, ie.size)) (fun i => rfl) hp hzr hcs
      refine ⟨rfl, _, .agg _ _ h2, run_build w t ⟨ps'⟩ ⟨out⟩ ?_⟩
      simp only [Program.built, hi, hu, hiz, hie]
      exact h1

theorem doAssert_ok {x x' v : Value} {xt t : TypeId} {ok : Bool} {s' : St} (h : doAssert P x t ok s = .ok v s') (hx : VRel ρ x x') : s' = s ∧ QOk P ρ w v (Instr.typeAssert x' xt t ok) := by
  have pair : ∀ {u u' : Value} (c : Bool), VRel ρ u u' → VRel ρ (.tuple #[u, .bool c]) (.tuple #[u', .bool c]) := fun c h => .tuple _ _ (.cons _ _ _ _ h (.cons _ _ _ _ (.bool c) .nil))
  unfold doAssert at h
  cases hu : P.underlying t with
  | none => rw [hu] at h; cases h
  | some d =>
    rw [hu] at h
    have zero : ∀ {c : Nat}, (ofO (zeroT P t) c fun z => .ok (.tuple #[z, .bool false]) s) = .ok v s' → s' = s ∧ ∃ z, VRel ρ v (.tuple #[z, .bool false]) ∧ (zeroValue t).run P w = .ok z w := fun h => by
      obtain ⟨z, hz, h⟩ := ofO_ok h
      injection h with e1 e2
      subst e1; subst e2
      obtain ⟨h1, h2⟩ := xz hz w
      exact ⟨rfl, z, pair _ (flat_refl ρ h2), h1⟩
    cases hx <;> first | (cases d <;> cases h; done) | skip
    case nilIface =>
      cases ok with
      | false => cases d <;> cases h
      | true =>
        cases d <;> simp only [cond_true] at h <;> (
          obtain ⟨h1, z, h2, h3⟩ := zero h
          refine ⟨h1, _, h2, ?_⟩
          simp [Instr.typeAssert, xu hu, h3])
    case iface tt u u' hu' =>
      cases d
      case interface want =>
        dsimp only at h
        obtain ⟨i, hi, h⟩ := ofO_ok h
        cases hm : Instr.missingMethod want i.methods with
        | none =>
          rw [hm] at h
          dsimp only at h
          injection h with e1 e2
          subst e1; subst e2
          cases ok
          · exact ⟨rfl, _, .iface _ _ _ hu', by simp [Instr.typeAssert, xu hu, xi hi, hm]⟩
          · exact ⟨rfl, _, pair _ (.iface _ _ _ hu'), by simp [Instr.typeAssert, xu hu, xi hi, hm]⟩
        | some _ =>
          rw [hm] at h
          cases ok with
          | false => cases h
          | true =>
            obtain ⟨h1, z, h2, h3⟩ := zero h
            exact ⟨h1, _, h2, by simp [Instr.typeAssert, xu hu, xi hi, hm, h3]⟩
      all_goals
        dsimp only at h
        cases hb : Nat.beq tt t with
        | true =>
          have := Nat.eq_of_beq_eq_true hb
          subst this
          rw [hb] at h
          simp only [cond_true] at h
          injection h with e1 e2
          subst e1; subst e2
          cases ok
          · exact ⟨rfl, _, hu', by simp [Instr.typeAssert, xu hu]⟩
          · exact ⟨rfl, _, pair _ hu', by simp [Instr.typeAssert, xu hu]⟩
        | false =>
          have hne : tt ≠ t := by
            rintro rfl
            simp at hb
          rw [hb] at h
          cases ok with
          | false => cases h
          | true =>
            obtain ⟨h1, z, h2, h3⟩ := zero h
            exact ⟨h1, _, h2, by simp [Instr.typeAssert, xu hu, hne, h3]⟩

/-! ### What makes -/
noncomputable def newS (cs : List Value) (e : TypeId) (lo : Bool) (s : St) : St := { heap := s.heap.set s.next (.row cs e lo), next := Nat.succ s.next }
/-- A new block comes of it, whenever it is run. -/
def MadeR (P : Program) (ρ : Ren) (w : World) (id : Nat) (cs : List Value) (e : TypeId) (lo : Bool) (v : Value) (x : Sem Value) : Prop :=
  ∃ o' cap v', x.run P w = .ok v' (w.alloc o') ∧ ∀ ρ' : Ren, ρ.Le ρ' → ρ' id = some ⟨w.heap.size, 0, cap⟩ → ORel P ρ' ⟨w.heap.size, 0, cap⟩ (.row cs e lo) o' ∧ VRel ρ' v v'
theorem row_exact {cs cs' : List Value} (h : LRel ρ cs cs') (g cap : Nat) (e : TypeId) : ORel P ρ ⟨g, 0, cap⟩ (.row cs e false) (.cells ⟨cs'⟩ e (0, 0)) :=
  ⟨⟨cs'⟩, (0, 0), rfl, fun j _ hc => by simp at hc, by show 0 + cs.length ≤ cs'.length; rw [h.length]; omega, fun j v hj => by
    obtain ⟨v', h1, h2⟩ := h.get hj
    exact ⟨v', by simpa using h1, h2⟩, fun h => by cases h⟩
theorem ptr_new {ρ' : Ren} {id g cap : Nat} (h : ρ' id = some ⟨g, 0, cap⟩) : VRel ρ' (.pointer (some ⟨id, 0, none⟩)) (.pointer (some ⟨g, 0, none⟩)) :=
  .ptr _ _ ⟨rfl, _, h, rfl⟩
theorem newRow_ok {cs : List Value} {e : TypeId} {lo : Bool} {v : Value} {s' : St} (h : newRow cs e lo s = .ok v s') : v = .pointer (some ⟨s.next, 0, none⟩) ∧ s' = newS cs e lo s := by
  injection h with e1 e2
  exact ⟨e1.symm, e2.symm⟩
theorem sliceOf_ok {n c : Nat} {cs : List Value} {e : TypeId} {lo : Bool} {v : Value} {s' : St} (h : sliceOf n c (newRow cs e lo s) = .ok v s') : v = .slice (some ⟨s.next, 0, none⟩) n c ∧ s' = newS cs e lo s := by
  injection h with e1 e2
  exact ⟨e1.symm, e2.symm⟩
theorem doAlloc_ok {t : TypeId} {v : Value} {s' : St} {c : Nat} (h : (ofO (zeroT P t) c fun z => newRow (cellsOf z) t false s) = .ok v s') :
    ∃ cs e lo, s' = newS cs e lo s ∧ ∀ (ρ : Ren) (w : World), MadeR P ρ w s.next cs e lo v (Instr.alloc t true (.tuple #[])) := by
  obtain ⟨z, hz, h⟩ := ofO_ok h
  obtain ⟨rfl, rfl⟩ := newRow_ok h
  refine ⟨_, _, _, rfl, fun ρ w => ?_⟩
  obtain ⟨h1, h2⟩ := xz hz w
  refine ⟨_, 0, _, ?_, fun ρ' hle hid => ⟨row_exact (cells_rel (flat_refl ρ' h2)) _ _ _, ptr_new hid⟩⟩
  simp [Instr.alloc, h1, newVar, Go.newRow]
theorem doBox_ok {t : TypeId} {x v : Value} {s' : St} (h : newRow (cellsOf x) t false s = .ok v s') :
    ∃ cs e lo, s' = newS cs e lo s ∧ ∀ (ρ : Ren) (w : World) (x' : Value), VRel ρ x x' → MadeR P ρ w s.next cs e lo v (Instr.box t x') := by
  obtain ⟨rfl, rfl⟩ := newRow_ok h
  refine ⟨_, _, _, rfl, fun ρ w x' hx => ⟨_, 0, _, ?_, fun ρ' hle hid => ⟨row_exact (cells_rel (hx.mono hle)) _ _ _, ptr_new hid⟩⟩⟩
  simp [Instr.box, newVar, Go.newRow]

theorem repL_get (z : List Value) : ∀ (n j : Nat), j < n * z.length → (repL n z)[j]? = z[j % z.length]?
  | 0, j, h => by simp at h
  | n + 1, j, h => by
    have e : repL (n + 1) z = z ++ repL n z := by rw [← appL_eq]; rfl
    rw [e]
    by_cases h1 : j < z.length
    · rw [List.getElem?_append_left h1, Nat.mod_eq_of_lt h1]
    · have h' : (n + 1) * z.length = n * z.length + z.length := Nat.succ_mul _ _
      rw [List.getElem?_append_right (by omega), repL_get z n _ (by omega), Nat.mod_eq_sub_mod (a := j) (by omega)]
theorem repL_length (z : List Value) : ∀ (n : Nat), (repL n z).length = n * z.length
  | 0 => by rw [Nat.zero_mul]; rfl
  | n + 1 => by
    have e : repL (n + 1) z = z ++ repL n z := by rw [← appL_eq]; rfl
    rw [e, List.length_append, repL_length z n, Nat.add_mul]; omega
theorem made_rep (z : Array Value) (n : Nat) : ((Array.range (n * z.size)).map fun i => z[i % z.size]!).toList = repL n z.toList := by
  apply List.ext_getElem?
  intro j
  by_cases h : j < n * z.size
  · rw [repL_get _ _ _ (by simpa using h)]
    have hz : 0 < z.size := by
      rcases Nat.eq_zero_or_pos z.size with h0 | h0
      · rw [h0] at h; simp at h
      · exact h0
    have hm := Nat.mod_lt j hz
    simp [h, hm, getElem!_pos]
  · rw [List.getElem?_eq_none (by simpa using h), List.getElem?_eq_none (by rw [repL_length]; simpa using h)]
theorem repL_rel {z z' : List Value} (h : LRel ρ z z') : ∀ n, LRel ρ (repL n z) (repL n z')
  | 0 => .nil
  | n + 1 => by
    have e : ∀ x : List Value, repL (n + 1) x = x ++ repL n x := fun x => by rw [← appL_eq]; rfl
    rw [e, e]
    exact h.append (repL_rel h n)

theorem slice_new {ρ' : Ren} {id g cap : Nat} (h : ρ' id = some ⟨g, 0, cap⟩) {n c : Nat} (hn : n ≤ c) (hc : isInf c = false) : VRel ρ' (.slice (some ⟨id, 0, none⟩) n c) (.slice (some ⟨g, 0, none⟩) n c) :=
  .slice _ _ _ _ _ ⟨rfl, _, h, rfl⟩ ⟨hn, by rw [if_neg (by rw [hc]; simp)]⟩
theorem doBuildSlice_ok {t : TypeId} {n : Nat} {ps : List (Nat × Value)} {v : Value} {s' : St} (h : doBuildSlice P t n ps s = .ok v s') :
    ∃ cs e lo, s' = newS cs e lo s ∧ ∀ (ρ : Ren) (w : World) (ps' : List (Nat × Value)), PRel ρ ps ps' → MadeR P ρ w s.next cs e lo v (Instr.buildSlice t n ⟨ps'⟩) := by
  unfold doBuildSlice at h
  cases hu : P.underlying t with
  | none => rw [hu] at h; cases h
  | some d =>
    rw [hu] at h
    cases d <;> first | (cases h; done) | skip
    rename_i e
    dsimp only at h
    obtain ⟨m, hm, h⟩ := ofO_ok h
    obtain ⟨z, hz, h⟩ := ofO_ok h
    obtain ⟨h1, h⟩ := bif_ok h
    obtain ⟨cs, hcs, h⟩ := ofO_ok h
    obtain ⟨rfl, rfl⟩ := sliceOf_ok h
    simp only [Bool.and_eq_true, Bool.not_eq_true', lenL_eq] at h1
    obtain ⟨hsm, hzl, hinf⟩ := h1
    obtain ⟨ie, hie, hiz, hzf⟩ := zeroT_some hz
    obtain ⟨ie', hie', rfl⟩ := szT_size hm
    rw [hie] at hie'
    injection hie' with hie'
    subst hie'
    refine ⟨_, _, _, rfl, fun ρ w ps' hp => ?_⟩
    have hzl := Nat.eq_of_beq_eq_true hzl
    have hzr : LRel ρ (cellsOf z) z.cells.toList := cells_rel (flat_refl ρ hzf)
    have hzs : z.cells.size = ie.size := by rw [← hzl, hzr.length]; exact Array.length_toList.symm
    have hrep : LRel ρ (repL n (cellsOf z)) ((Array.range (n * ie.size)).map (z.cells[· % z.cells.size]!)).toList := by
      have := made_rep z.cells n
      rw [hzs] at this
      rw [hzs, this]
      exact repL_rel hzr n
    obtain ⟨out, h2, h3⟩ := fill_ok (place' := fun i => some (i * ie.size, ie.size)) (fun i => rfl) hp hrep hcs
    have hsm := Nat.le_of_ble_eq_true hsm
    refine ⟨.cells ⟨out⟩ e, 0, .slice (some ⟨w.heap.size, 0, none⟩) n n, ?_, fun ρ' hle hid => ⟨row_exact (h3.mono hle) _ _ _, slice_new hid (Nat.le_refl _) hinf⟩⟩
    have h2' : Instr.fill (fun i => some (i * ie.size, ie.size)) ((Array.range (n * ie.size)).map (z.cells[· % z.cells.size]!)) ps' = some ⟨out⟩ := h2
    by_cases hpos : n * ie.size = 0
    · have h2'' : Instr.fill (fun i => some (i * ie.size, ie.size)) #[] ps' = some ⟨out⟩ := by
        rw [hpos] at h2'
        rw [show ∀ f : Nat → Value, (Array.range 0).map f = #[] from fun f => by simp] at h2'
        exact h2'
      have hns : ¬ n * ie.size > 2 ^ 24 := by omega
      have hE : ∀ f : Nat → Value, (Array.range 0).map f = #[] := fun f => by simp
      simp only [Instr.buildSlice, Sem.run_bind, xu hu, Result.andThen_ok, xs hm, hpos, if_true, hE]
      rw [if_neg (by decide)]
      simp only [Sem.run_bind, Sem.run_pure, Result.andThen_ok]
      rw [h2'']
      simp [Go.newRow]
    · exact run_buildSlice w t e n ⟨ps'⟩ ⟨out⟩ ie z hu hie hiz (by omega) hpos h2'
theorem doMakeSlice_ok {t : TypeId} {l c v : Value} {s' : St} (h : doMakeSlice P t l c s = .ok v s') :
    ∃ cs e lo, s' = newS cs e lo s ∧ ∀ (ρ : Ren) (w : World) (l' c' : Value), VRel ρ l l' → VRel ρ c c' → MadeR P ρ w s.next cs e lo v (Instr.makeSlice t l' c') := by
  unfold doMakeSlice at h
  cases hu : P.underlying t with
  | none => rw [hu] at h; cases h
  | some d =>
    rw [hu] at h
    cases d <;> first | (cases h; done) | skip
    cases l <;> first | (cases h; done) | skip
    cases c <;> first | (cases h; done) | skip
    rename_i e kl l kc c
    dsimp only at h
    obtain ⟨m, hm, h⟩ := ofO_ok h
    obtain ⟨z, hz, h⟩ := ofO_ok h
    obtain ⟨h1, h⟩ := bif_ok h
    obtain ⟨by_, hby, h⟩ := ofO_ok h
    obtain ⟨h2, h⟩ := bif_ok h
    obtain ⟨rfl, rfl⟩ := sliceOf_ok h
    simp only [Bool.and_eq_true, lenL_eq, decide_eq_true_eq] at h1
    obtain ⟨⟨h0, hlc⟩, hc1, hzl⟩ := h1
    obtain ⟨ie, hie, hiz, hzf⟩ := zeroT_some hz
    obtain ⟨ie', hie', rfl⟩ := szT_size hm
    rw [hie] at hie'
    injection hie' with hie'
    subst hie'
    obtain ⟨ib, hib, rfl⟩ := bytesT_some hby
    rw [hie] at hib
    injection hib with hib
    subst hib
    refine ⟨_, _, _, rfl, fun ρ w l' c' hl hc => ?_⟩
    cases hl
    cases hc
    have hzl := Nat.eq_of_beq_eq_true hzl
    have hc1 := Nat.le_of_ble_eq_true hc1
    have h2 := Nat.le_of_ble_eq_true h2
    have hzr : LRel ρ (cellsOf z) z.cells.toList := cells_rel (flat_refl ρ hzf)
    have hzs : z.cells.size = ie.size := by rw [← hzl, hzr.length]; exact Array.length_toList.symm
    have hbytes : (ie.bytes : Int) * c ≤ 281474976710656 := by
      have h3 : ie.bytes * c.toNat ≤ ie.bytes * 1000000 := Nat.mul_le_mul_left _ hc1
      have h4 : (c : Int) = (c.toNat : Int) := by omega
      rw [h4]
      have h5 : ie.bytes * c.toNat ≤ 2 ^ 40 := Nat.le_trans h3 h2
      have h6 : ((ie.bytes * c.toNat : Nat) : Int) ≤ ((2 ^ 40 : Nat) : Int) := Int.ofNat_le.2 h5
      rw [Int.natCast_mul] at h6
      exact Int.le_trans h6 (by decide)
    have hrun := run_make (P := P) w t e ie z hu hie hiz kl kc l c h0 hlc hbytes (by omega)
    refine ⟨_, 0, _, hrun, fun ρ' hle hid => ⟨?_, slice_new hid (by omega) ?_⟩⟩
    · have := made_rep z.cells c.toNat
      rw [hzs] at this
      have e1 : madeCells z.cells (c.toNat * ie.size) = ⟨repL c.toNat z.cells.toList⟩ := by
        apply Array.ext'
        rw [← this]
        unfold madeCells
        rw [hzs]
      rw [e1]
      exact row_exact (repL_rel (hzr.mono hle) _) _ _ _
    · unfold isInf
      cases hb : Nat.ble (2 ^ 63) c.toNat with
      | false => rfl
      | true => have := Nat.le_of_ble_eq_true hb; omega
end
end Go.Proofs.YtdhkebolenbpiaaGreatDoor.X

namespace Go.Proofs.YtdhkebolenbpiaaGreatDoor.X
open Go.RowKit

section
variable {P : Program} {b : Base} {ρ : Ren} {s : St} {w : World}

/-- What append is given: how many, and their cells. -/
structure Given (P : Program) (w : World) (size n : Nat) (xt : TypeId) (x : Value) (new : List Value) : Prop where
  desc : ∃ d, P.underlying xt = some d ∧ (∀ k, d ≠ .int k)
  len : ∀ w, (Builtin.lenOf x).run P w = .ok n w
  cells : (Builtin.firstCells size n x).run P w = .ok ⟨new⟩ w
  drew : (Builtin.firstCells size n x).run P w.drew = .ok ⟨new⟩ w.drew

theorem run_append_in {t elem xt ty : TypeId} {size n sLen sCap : Nat} {base : Option Addr} {x : Value} {new : List Value} (hu : P.underlying t = some (.slice elem)) (hz : szT P elem = some size) (hg : Given P w size n xt x new)
    (hfit : sLen + n ≤ sCap) :
    (Builtin.append_ #[t, xt] ty #[.slice base sLen sCap, x]).run P w = Result.andThen (((match base with | some a => storeCells (a.add (sLen * size)) new | none => pure ()) : Sem Unit).run P w) fun _ w' => .ok (.slice base (sLen + n) sCap) w' := by
  obtain ⟨d, hd, hnk⟩ := hg.desc
  have hlen := hg.len
  have hc := hg.cells
  have hm : (match d with | .int _ => true | _ => false) = false := by
    cases d <;> first | exact absurd rfl (hnk _) | rfl
  cases base <;> simp [Builtin.append_, xu hu, xu hd, xs hz, hlen, hfit, hc]

theorem growCap_ge (w : World) (need old : Nat) (e : TypeId) : need ≤ grownCap w need old e := by
  unfold grownCap
  exact Nat.le_add_right _ _
theorem run_append_out {t elem xt ty : TypeId} {size n sLen sCap by_ : Nat} {base : Option Addr} {x zz : Value} {old new : List Value} (hu : P.underlying t = some (.slice elem)) (hz : szT P elem = some size) (hzz : zeroT P elem = some zz) (hg : Given P w size n xt x new)
    (hby : bytesT P elem = some by_) (hb0 : 0 < by_) (hb : (sLen + n) * by_ * 2 ≤ 2 ^ 40) (hfit : sCap < sLen + n) (ho : (Builtin.firstCells size sLen (.slice base sLen sCap)).run P w.drew = .ok ⟨old⟩ w.drew) :
    (Builtin.append_ #[t, xt] ty #[.slice base sLen sCap, x]).run P w = .ok (.slice (some ⟨w.heap.size, 0, none⟩) (sLen + n) (grownCap w (sLen + n) sCap elem))
      (w.drew.alloc (.cells (⟨old⟩ ++ ⟨new⟩ ++ Builtin.zeroCells zz.cells (grownCap w (sLen + n) sCap elem - (sLen + n))) elem)) := by
  obtain ⟨i, hi, rfl⟩ := bytesT_some hby
  have hzv : ∀ w, (zeroValue elem).run P w = .ok zz w := fun w => (xz hzz w).1
  have hle : sLen + n ≤ (sLen + n) * i.bytes := Nat.le_mul_of_pos_right _ hb0
  have hn : ¬ (sLen + n ≤ sCap) := by omega
  have h63' : ¬ (9223372036854775807 < ((sLen : Int) + (n : Int))) := by omega
  have h48' : ¬ (281474976710656 < Builtin.nextslicecap (sLen + n) sCap * i.bytes) := by
    have h1 := nextslicecap_le hfit
    have h2 : Builtin.nextslicecap (sLen + n) sCap * i.bytes ≤ 2 * (sLen + n) * i.bytes := Nat.mul_le_mul_right _ h1
    have h3 : 2 * (sLen + n) * i.bytes = (sLen + n) * i.bytes * 2 := by rw [Nat.mul_comm 2, Nat.mul_assoc, Nat.mul_comm 2, ← Nat.mul_assoc]
    omega
  obtain ⟨d, hd, hnk⟩ := hg.desc
  have hlen := hg.len
  have hc := hg.drew
  have hm : (match d with | .int _ => true | _ => false) = false := by
    cases d <;> first | exact absurd rfl (hnk _) | rfl
  simp [Builtin.append_, xu hu, xu hd, xs hz, hlen, hn, hc, xi hi, hzv, h63', h48', Question.forced, ho, Go.newRow, grownCap]
  congr 2
  apply Array.ext'
  simp
end
end Go.Proofs.YtdhkebolenbpiaaGreatDoor.X

namespace Go.Proofs.YtdhkebolenbpiaaGreatDoor.X
open Go.RowKit

section
variable {P : Program} {b : Base} {ρ : Ren} {s : St} {w : World}

theorem firstC_ok {size n : Nat} {x x' : Value} {new : List Value} (h : firstC size n x s = some new) (hx : VRel ρ x x') (hw : WRel P b ρ s w) (hs : lenV x = some n ∨ True) :
    ∃ new', LRel ρ new new' ∧ (Builtin.firstCells size n x').run P w = .ok ⟨new'⟩ w ∧ (Builtin.firstCells size n x').run P w.drew = .ok ⟨new'⟩ w.drew := by
  cases hx <;> first | (cases h; done) | skip
  case string bs =>
    injection h with h
    subst h
    refine ⟨_, flats_refl ρ ?_, ?_, ?_⟩
    · unfold bytesV
      generalize takeL n bs.data.toList = l
      induction l with
      | nil => rfl
      | cons _ _ ih => simpa [flats, flat] using ih
    all_goals
      simp only [Builtin.firstCells, Sem.run_pure]
      congr 1
      apply Array.ext'
      unfold bytesV
      rw [takeL_eq]
      simp [ByteArray.data_extract]
  case sstr i m l hl hv =>
    simp only [firstC] at h
    cases hb0 : Nat.blt m FLD with
    | true =>
      rw [hb0] at h
      simp only [cond_true] at h
      rw [sv_old l.sh (Nat.le_of_ble_eq_true hb0)] at hv
      subst hv
      cases hb : Nat.ble n m with
      | false => rw [hb] at h; cases h
      | true =>
        rw [hb] at h
        injection h with h
        subst h
        have hm := Nat.le_of_ble_eq_true hb
        refine ⟨((letS m (symI l.sh)).data.toList.take n).map fun b => .int .u8 b.toNat, ?_, ?_, ?_⟩
        · have hrep : ∀ n, repL n [Value.chan none] = List.replicate n (.chan none) := fun n => by
            induction n with
            | zero => rfl
            | succ n ih => show appL [Value.chan none] (repL n [Value.chan none]) = _; rw [ih]; rfl
          rw [hrep]
          have hlen : ((letS m (symI l.sh)).data.toList.take n).length = n := by
            have := letS_size m (symI l.sh)
            rw [ByteArray.size, ← Array.length_toList] at this
            simp only [List.length_take]; omega
          generalize (letS m (symI l.sh)).data.toList.take n = q at hlen
          subst hlen
          clear hs hb hm hb0
          induction q with
          | nil => exact .nil
          | cons x q ih => exact .cons _ _ _ _ (.anyB _ (UInt8.toNat_lt x)) ih
        all_goals
          simp only [Builtin.firstCells, Sem.run_pure]
          congr 1
          apply Array.ext'
          simp [ByteArray.data_extract]
    | false =>
      rw [hb0] at h
      simp only [cond_false] at h
      obtain ⟨g, hq⟩ := bif_some h
      clear h
      split at hq
      · rename_i vs hvs
        injection hq with hq
        subst hq
        rw [sv_txt l.sh g] at hv
        subst hv
        rw [takeL_eq]
        refine ⟨((tItems m).map fun d => Value.int .u8 (itemB l.sh d).toNat).take n, (itemsV_ok hl hvs).take n, ?_, ?_⟩
        all_goals
          simp only [Builtin.firstCells, Sem.run_pure]
          congr 1
          apply Array.ext'
          simp [ByteArray.data_extract, txtB]
          rfl
      · cases hq
  case sliceN =>
    simp only [firstC] at h
    cases hn : Nat.beq n 0 with
    | false => rw [hn] at h; cases h
    | true =>
      rw [hn] at h
      injection h with h
      subst h
      exact ⟨[], .nil, by simp [Builtin.firstCells], by simp [Builtin.firstCells]⟩
  case sliceE a a' c c' hsp =>
    simp only [firstC] at h
    cases hn : Nat.beq n 0 with
    | false =>
      rw [hn] at h
      exfalso
      simp only [cond_false] at h
      unfold rowOf at h
      cases hr : getRow s a with
      | none => rw [hr] at h; cases h
      | some x => obtain ⟨cs, e, l⟩ := x; have := (getRow_some hr).2; rw [this] at hsp; cases hsp
    | true =>
      rw [hn] at h
      have := Nat.eq_of_beq_eq_true hn
      subst this
      injection h with h
      subst h
      exact ⟨[], .nil, by simp [Builtin.firstCells, loadCells, loadCellsFrom], by simp [Builtin.firstCells, loadCells, loadCellsFrom]⟩
  case slice a a' m c c' ha hc =>
    simp only [firstC] at h
    cases hn : Nat.beq n 0 with
    | false =>
      rw [hn] at h
      simp only [cond_false] at h
      obtain ⟨l', h1, h2, h3⟩ := rowOf_ok h ha hw
      obtain ⟨l2, h4, h5, h6⟩ := rowOf_ok h ha hw.drew
      refine ⟨l', h1, by simpa [Builtin.firstCells] using h3, ?_⟩
      have e : w.drew = { w with drawn := w.drawn + 1 } := rfl
      rw [← e] at h6
      have hsame : (loadCells a' (n * size)).run P w.drew = .ok ⟨l'⟩ w.drew := by
        unfold rowOf at h
        cases hr : getRow s a with
        | none => rw [hr] at h; cases h
        | some x =>
          obtain ⟨cs, e, lo⟩ := x
          rw [hr] at h
          dsimp only at h
          rw [takeL_eq, dropL_eq, lenL_eq] at h
          cases hb : Nat.beq ((cs.drop a.off).take (n * size)).length (n * size) with
          | false => rw [hb] at h; cases h
          | true =>
            obtain ⟨k, cc, fz, hk, rfl, hg, hcc, hrr⟩ := hw.row hr ha
            obtain ⟨g4, g5⟩ := row_sub hrr (n * size) a.off (Nat.eq_of_beq_eq_true hb)
            have g6 := run_cells (P := P) (w := w) hcc g5
            have g7 := run_cells (P := P) (w := w.drew) hcc g5
            rw [g6] at h3
            injection h3 with h3
            rw [g7, h3]
      simpa [Builtin.firstCells] using hsame
    | true =>
      rw [hn] at h
      have := Nat.eq_of_beq_eq_true hn
      subst this
      injection h with h
      subst h
      exact ⟨[], .nil, by simp [Builtin.firstCells, loadCells, loadCellsFrom], by simp [Builtin.firstCells, loadCells, loadCellsFrom]⟩

theorem isInf_INF : isInf INF = true := by decide
/-- A new row of an open capacity. -/
theorem grown_row (hw : WRel P b ρ s w) {elem : TypeId} {size cap : Nat} {cs cs' : List Value} {need : Nat} (hz : szT P elem = some size) (hr : LRel ρ cs cs') (hl : cs.length = need * size) (zs : Array Value) (hzs : zs.size = (cap - need) * size) (hc : need ≤ cap) :
    Ok P b ρ s (ρ.upd s.next ⟨w.heap.size, 0, cap⟩) (newS cs elem true s) (w.alloc (.cells (⟨cs'⟩ ++ zs) elem)) ∧
    VRel (ρ.upd s.next ⟨w.heap.size, 0, cap⟩) (.slice (some ⟨s.next, 0, none⟩) need INF) (.slice (some ⟨w.heap.size, 0, none⟩) need cap) := by
  refine ⟨hw.new cap fun ρ' hle hid => ⟨_, (0, 0), rfl, fun j _ h => by simp at h, ?_, fun j v hj => ?_, fun _ m hm => ?_⟩, .slice _ _ _ _ _ ⟨rfl, _, upd_self _ _ _, by simp⟩ ⟨hc, ?_⟩⟩
  · have : (⟨cs'⟩ ++ zs : Array Value).size = cs'.length + zs.size := Array.size_append
    rw [this, ← hr.length]
    show 0 + cs.length ≤ _
    omega
  · obtain ⟨v', h1, h2⟩ := (hr.mono hle).get hj
    refine ⟨v', ?_, h2⟩
    have hlt := (List.getElem?_eq_some_iff.1 h1).1
    rw [Nat.zero_add, Array.getElem?_append_left (by simpa using hlt)]
    simpa using h1
  · rw [hz] at hm
    injection hm with hm
    subst hm
    have h1 : (⟨cs'⟩ ++ zs : Array Value).size = cs'.length + zs.size := Array.size_append
    have h2 : (cap - need) * size + need * size = cap * size := by rw [← Nat.add_mul]; congr 1; omega
    have h3 := hr.length
    refine ⟨by rw [hl]; exact Nat.mul_le_mul_right _ hc, ?_⟩
    rw [h1]
    show 0 + cap * size ≤ _
    omega
  · rw [if_pos isInf_INF]
    exact ⟨Nat.le_refl _, _, upd_self _ _ _, by simp⟩
end
end Go.Proofs.YtdhkebolenbpiaaGreatDoor.X
