/- Calls that are known where a text is the law's own key: whether it may be a key, check sums, the number of four bytes. -/
import Derived.Test.YtdhkebolenbpiaaGreatDoorRk
import Derived.Test.YtdhkebolenbpiaaGreatDoorRs
import Derived.Test.YtdhkebolenbpiaaGreatDoorRf
import Derived.Test.YtdhkebolenbpiaaGreatDoorRg
namespace Go.Proofs.YtdhkebolenbpiaaGreatDoor.X
open Go.RowKit
section
variable {P : Program} {G V : Nat}
/-- The symbol's place. -/
theorem sym_at {b : Base} {ρ : Ren} {s : St} {w : World} {i : Nat} (hbG : (b.G, b.val) = (G, V)) (hw : WRel P b ρ s w) (hi : i + 1 = G) : ∃ l : Loc, ρ i = some l ∧ l.sh = V := by
  injection hbG with hG hV
  refine ⟨_, hw.glob i (by omega), ?_⟩
  show (if i + 1 = b.G then b.val else 0) = V
  rw [if_pos (by omega), hV]
noncomputable def KKey (G fK T : Nat) (r : Bool) (ft fa : Nat) (f : FuncId) (args : List Value) (s : St) : Option (Value × St) :=
  bif Nat.beq f fK then
    match args with
    | [.complex .f64 i n] => bif (Nat.beq (Nat.succ i) G && Nat.beq n T) && (isTxt T && tabsF ft fa s) then some (.bool r, s) else none
    | _ => none
  else none
theorem known_KKey {fK T ft fa : Nat} {r : Bool} {key : ByteArray} (hf : ft + 1 < G) (ha : fa + 1 < G) (hT : txtB T V = key) (h : ∀ w, Lib.Utf8Tabs ft fa w → CallsU P fK #[.string key] w (.bool r)) : Known P G V (KKey G fK T r ft fa) := by
  intro f args s v s2 hk b ρ w args' hbG hw hl cs
  unfold KKey at hk
  obtain ⟨g0, hk1⟩ := bif_some hk
  clear hk
  have := Nat.eq_of_beq_eq_true g0
  subst this
  split at hk1
  · rename_i i n
    obtain ⟨g1, hk2⟩ := bif_some hk1
    clear hk1
    simp only [Bool.and_eq_true] at g1
    have hi : i + 1 = G := Nat.eq_of_beq_eq_true g1.1.1
    have e2 := Nat.eq_of_beq_eq_true g1.1.2
    subst e2
    injection hk2 with hk4
    injection hk4 with e3 e4
    subst e3; subst e4
    obtain ⟨l, hl1, hl2⟩ := sym_at hbG hw hi
    injection hbG with hG hV
    cases hl with
    | cons _ v1 _ _ hv1 ht =>
    cases ht
    cases hv1 with
    | sstr _ _ l' _ hlo hv =>
    rw [hl1] at hlo
    injection hlo with hlo
    subst hlo
    rw [hl2, sv_txt _ g1.2.1, hT] at hv
    subst hv
    exact known_rel (v' := .bool r) hw (.bool _) (h w (tabs_of (by omega) (by omega) hw (tabsF_here g1.2.2))) cs
  · cases hk1

/-! ### Check sums -/
theorem itemsOf_at {i : Nat} : ∀ {l : List Value} {ds : List Nat}, itemsOf i l = some ds → ds.length = l.length ∧ ∀ (j : Nat) v, l[j]? = some v → ∃ d, ds[j]? = some d ∧ itemOf i v = some d
  | [], ds, h => by
    have h : some [] = some ds := h
    injection h with h
    subst h
    exact ⟨rfl, fun j v hv => by simp at hv⟩
  | x :: l, ds, h => by
    have h : (match itemOf i x, itemsOf i l with | some d, some r => some (d :: r) | _, _ => none) = some ds := h
    split at h
    · rename_i d r h1 h2
      injection h with h
      subst h
      obtain ⟨k1, k2⟩ := itemsOf_at h2
      refine ⟨by simp [k1], fun j v hv => ?_⟩
      cases j with
      | zero => simp at hv; subst hv; exact ⟨d, by simp, h1⟩
      | succ j => simp at hv; simpa using k2 j v hv
    · cases h
/-- The cells of a slice, as they are. -/
theorem cells_at {b : Base} {ρ : Ren} {s : St} {w : World} {a a' : Addr} {cs : List Value} (hw : WRel P b ρ s w) (h : getCells s a = some cs) (ha : ARel ρ a a') :
    ∃ bk o, a' = ⟨bk, o, none⟩ ∧ ∀ (j : Nat) (v : Value), (cs.drop a.off)[j]? = some v → ∃ v', w.cell? ⟨bk, o + j, none⟩ = some v' ∧ VRel ρ v v' := by
  obtain ⟨k, c, e, fz, rfl, hblk, hcell⟩ := hw.cells h ha
  refine ⟨_, _, rfl, fun j v hv => ?_⟩
  rw [List.getElem?_drop] at hv
  obtain ⟨v', q1, q2⟩ := hcell _ _ hv
  refine ⟨v', ?_, q2⟩
  unfold World.cell?
  dsimp only
  rw [hblk]
  dsimp only
  rw [show k.sh + a.off + j = k.sh + (a.off + j) by omega]
  exact q1
theorem no_spot {s : St} {a : Addr} {cs : List Value} (hc : getCells s a = some cs) : a.spot = none := by
  unfold getCells at hc
  split at hc
  · split at hc
    · assumption
    · cases hc
  · split at hc
    · assumption
    · cases hc
  · cases hc
theorem nfull_sv {k : IntKind} {hi wd sh q c : Nat} (V : Nat) (h : mkN k 0 hi wd sh q 19 = some (.complex .f64 19 c)) (hh : hi + 1 = 2 ^ wd) : svV c V = .int k ((fldQ q V / 2 ^ sh % 2 ^ wd : Nat) : Int) := by
  obtain ⟨n, e, f0, f1, f2, f3, f4, f5, f6⟩ := mkN_ok h
  injection e with _ _ e
  subst e
  have := sv_full V f0 f2 (by rw [f3, f4]; exact hh)
  rw [f1, f4, f5, f6] at this
  exact this
/-- The check sum of the one row that holds the key. -/
noncomputable def KSumR (fS cc : Nat) (ds : List Nat) (f : FuncId) (args : List Value) (s : St) : Option (Value × St) :=
  bif Nat.beq f fS then
    match args with
    | [.slice (some a) n _] =>
      match getCells s a with
      | some cs =>
        match itemsOf 19 (takeL n (dropL a.off cs)) with
        | some es => bif (sameNs es ds && Nat.beq (lenL es) n) && Nat.ble n 1000000 then some (.complex .f64 19 cc, s) else none
        | none => none
      | none => none
    | _ => none
  else none
theorem known_KSumR {ds : List Nat} {cc : Nat} (hG : G = 20) (hcrc : svV cc V = .int .u32 (sumI (ds.map fun d => (itemB V d).toNat))) : Known Tryz.prog G V (KSumR 286 cc ds) := by
  intro f args s v s2 hk b ρ w args' hbG hw hl cs
  unfold KSumR at hk
  obtain ⟨g0, hk1⟩ := bif_some hk
  clear hk
  have := Nat.eq_of_beq_eq_true g0
  subst this
  split at hk1
  · rename_i a n c
    split at hk1
    · rename_i cs' hc
      split at hk1
      · rename_i es hes
        obtain ⟨g1, hk2⟩ := bif_some hk1
        clear hk1
        simp only [Bool.and_eq_true] at g1
        have e1 := sameNs_eq g1.1.1
        subst e1
        have hn := Nat.eq_of_beq_eq_true g1.1.2
        have hn2 := Nat.le_of_ble_eq_true g1.2
        rw [lenL_eq] at hn
        rw [takeL_eq, dropL_eq] at hes
        obtain ⟨hlen, hit⟩ := itemsOf_at hes
        injection hk2 with hk4
        injection hk4 with e3 e4
        subst e3; subst e4
        obtain ⟨loc, hl1, hl2⟩ := sym_at (i := 19) hbG hw (by omega)
        have hsp := no_spot hc
        cases hl with
        | cons _ v1 _ _ hv1 ht =>
        cases ht
        cases hv1 with
        | sliceE a a' c c' hs => rw [hsp] at hs; cases hs
        | slice a a' n c c' ha hcr =>
          obtain ⟨bk, o, rfl, hcell⟩ := cells_at hw hc ha
          have key := sum_ex bk o n c' w (es.map fun d => (itemB V d).toNat) (by rw [List.length_map]; exact hn) (by omega) (fun j hj => by
            obtain ⟨d, hd⟩ : ∃ d, es[j]? = some d := ⟨_, List.getElem?_eq_getElem (by omega)⟩
            have hlt : j < ((cs'.drop a.off).take n).length := by omega
            obtain ⟨v, hv⟩ : ∃ v, ((cs'.drop a.off).take n)[j]? = some v := ⟨_, List.getElem?_eq_getElem hlt⟩
            obtain ⟨d', hd', hio⟩ := hit j v hv
            rw [hd] at hd'
            injection hd' with hd'
            subst hd'
            rw [List.getElem?_take, if_pos hj] at hv
            obtain ⟨v', q1, q2⟩ := hcell j v hv
            have q3 := itemOf_ok hio hl1 q2
            subst q3
            rw [hl2] at q1
            exact ⟨_, by rw [List.getElem?_map, hd]; rfl, (itemB V d).toNat_lt, q1⟩)
          refine known_rel (v' := .int .u32 (sumI (es.map fun d => (itemB V d).toNat))) hw (.sstr 19 cc loc _ hl1 ?_) (key.mono fun _ _ h => ⟨h.1, by rw [h.2]; exact Below.refl _ _⟩) cs
          rw [hl2, hcrc]
      · cases hk1
    · cases hk1
  · cases hk1
/-- The number of four bytes that are that check sum. -/
noncomputable def KGet (fG cc : Nat) (cb : Nat → Nat) (f : FuncId) (args : List Value) (s : St) : Option (Value × St) :=
  bif Nat.beq f fG then
    match args with
    | [.slice (some a) n _] =>
      match getCells s a with
      | some cs =>
        match takeL 4 (dropL a.off cs) with
        | [.complex .f64 i0 n0, .complex .f64 i1 n1, .complex .f64 i2 n2, .complex .f64 i3 n3] =>
          bif ((Nat.beq i0 19 && Nat.beq n0 (cb 0)) && (Nat.beq i1 19 && Nat.beq n1 (cb 1))) && (((Nat.beq i2 19 && Nat.beq n2 (cb 2)) && (Nat.beq i3 19 && Nat.beq n3 (cb 3))) && (Nat.ble 4 n && Nat.ble n 1000000)) then some (.complex .f64 19 cc, s) else none
        | _ => none
      | none => none
    | _ => none
  else none
theorem known_KGet {cc q : Nat} {cb : Nat → Nat} (hG : G = 20) (hcc : svV cc V = .int .u32 ((fldQ q V % 2 ^ 32 : Nat) : Int)) (hcb : ∀ k, k < 4 → svV (cb k) V = .int .u8 ((fldQ q V / 2 ^ (8 * k) % 2 ^ 8 : Nat) : Int)) : Known Tryz.prog G V (KGet 330 cc cb) := by
  intro f args s v s2 hk b ρ w args' hbG hw hl cs
  unfold KGet at hk
  obtain ⟨g0, hk1⟩ := bif_some hk
  clear hk
  have := Nat.eq_of_beq_eq_true g0
  subst this
  split at hk1
  · rename_i a n c
    split at hk1
    · rename_i cs' hc
      split at hk1
      · rename_i i0 n0 i1 n1 i2 n2 i3 n3 hes
        obtain ⟨g1, hk2⟩ := bif_some hk1
        clear hk1
        simp only [Bool.and_eq_true] at g1
        obtain ⟨⟨⟨a0, b0⟩, ⟨a1, b1⟩⟩, ⟨⟨⟨a2, b2⟩, ⟨a3, b3⟩⟩, ⟨m0, m1⟩⟩⟩ := g1
        have := Nat.eq_of_beq_eq_true a0; subst this
        have := Nat.eq_of_beq_eq_true a1; subst this
        have := Nat.eq_of_beq_eq_true a2; subst this
        have := Nat.eq_of_beq_eq_true a3; subst this
        have := Nat.eq_of_beq_eq_true b0; subst this
        have := Nat.eq_of_beq_eq_true b1; subst this
        have := Nat.eq_of_beq_eq_true b2; subst this
        have := Nat.eq_of_beq_eq_true b3; subst this
        have hn1 := Nat.le_of_ble_eq_true m0
        have hn2 := Nat.le_of_ble_eq_true m1
        clear a0 a1 a2 a3 b0 b1 b2 b3 m0 m1
        rw [takeL_eq, dropL_eq] at hes
        injection hk2 with hk4
        injection hk4 with e3 e4
        subst e3; subst e4
        obtain ⟨loc, hl1, hl2⟩ := sym_at (i := 19) hbG hw (by omega)
        have hsp := no_spot hc
        cases hl with
        | cons _ v1 _ _ hv1 ht =>
        cases ht
        cases hv1 with
        | sliceE a a' c c' hs => rw [hsp] at hs; cases hs
        | slice a a' n c c' ha hcr =>
          obtain ⟨bk, o, rfl, hcell⟩ := cells_at hw hc ha
          have one : ∀ j, (((cs'.drop a.off).take 4)[j]? = some (.complex .f64 19 (cb j))) → j < 4 → w.cell? ⟨bk, o + j, none⟩ = some (.int .u8 ((fldQ q V / 2 ^ (8 * j) % 2 ^ 8 : Nat) : Int)) := fun j hv hj => by
            rw [List.getElem?_take, if_pos hj] at hv
            obtain ⟨v', q1, q2⟩ := hcell j _ hv
            cases q2 with
            | sstr _ _ l' _ hlo hvv =>
            rw [hl1] at hlo
            injection hlo with hlo
            subst hlo
            rw [hl2, hcb j hj] at hvv
            subst hvv
            exact q1
          rw [hes] at one
          generalize fldQ q V = x at one hcc
          have key := get_ex bk o n c' w (x / 2 ^ (8 * 0) % 2 ^ 8) (x / 2 ^ (8 * 1) % 2 ^ 8) (x / 2 ^ (8 * 2) % 2 ^ 8) (x / 2 ^ (8 * 3) % 2 ^ 8) hn1 (by omega) (Nat.mod_lt _ (by omega)) (Nat.mod_lt _ (by omega)) (Nat.mod_lt _ (by omega)) (Nat.mod_lt _ (by omega))
            (one 0 rfl (by omega)) (one 1 rfl (by omega)) (one 2 rfl (by omega)) (one 3 rfl (by omega))
          have hp : getP (x / 2 ^ (8 * 0) % 2 ^ 8) (x / 2 ^ (8 * 1) % 2 ^ 8) (x / 2 ^ (8 * 2) % 2 ^ 8) (x / 2 ^ (8 * 3) % 2 ^ 8) 4 = x % 2 ^ 32 := by
            show _ + _ * 256 + _ * 65536 + _ * 16777216 = _
            omega
          rw [hp] at key
          refine known_rel (v' := .int .u32 ((x % 2 ^ 32 : Nat) : Int)) hw (.sstr 19 cc loc _ hl1 ?_) (key.mono fun _ _ h => ⟨h.1, by rw [h.2]; exact Below.refl _ _⟩) cs
          rw [hl2, hcc]
      · cases hk1
    · cases hk1
  · cases hk1

/-! ### Check sums of rows that are known -/
noncomputable def crcS (y : Nat) : Nat := iff' (Nat.beq (y % 2) 1) (Nat.xor (y / 2) 3988292384) (y / 2)
noncomputable def crc8 (m : Nat) : Nat → Nat := Nat.rec (motive := fun _ => Nat → Nat) (fun y => y) (fun _ go y => forceN (crcS y) go) m
noncomputable def crcF (l : List Nat) : Nat → Nat := List.rec (motive := fun _ => Nat → Nat) (fun y => y) (fun d _ go y => forceN (crc8 8 (Nat.xor y d)) go) l
noncomputable def sumF (l : List Nat) : Nat := Nat.xor 4294967295 (crcF l 4294967295)
theorem crcS_lt {y : Nat} (h : y < 4294967296) : crcS y < 4294967296 ∧ ((crcS y : Nat) : Int) = crcI y := by
  unfold crcS crcI
  rw [iff_eq]
  have e1 : bits .and .u32 (y : Int) 1 = ((y % 2 : Nat) : Int) := (u32_and_nat y 1 h (by omega)).trans (by rw [Nat.and_one_is_mod])
  have e2 : (y : Int) / 2 = ((y / 2 : Nat) : Int) := by omega
  have e3 : bits .xor .u32 ((y / 2 : Nat) : Int) 3988292384 = ((Nat.xor (y / 2) 3988292384 : Nat) : Int) := u32_xor_nat (y / 2) 3988292384 (by omega) (by omega)
  rw [e1, e2]
  cases hb : Nat.beq (y % 2) 1 with
  | true =>
    have hy := Nat.eq_of_beq_eq_true hb
    rw [hy]
    refine ⟨Nat.xor_lt_two_pow (n := 32) (by omega) (by omega), ?_⟩
    rw [e3]
    rfl
  | false =>
    have hy : y % 2 = 0 := by
      have : y % 2 ≠ 1 := fun e => by rw [e] at hb; cases hb
      omega
    rw [hy]
    exact ⟨by show y / 2 < _; omega, rfl⟩
theorem crc8_ok : ∀ (m y : Nat), y < 4294967296 → crc8 m y < 4294967296
  | 0, _, h => h
  | m + 1, y, h => by
    have e : crc8 (m + 1) y = crc8 m (crcS y) := forceN_eq _ _
    rw [e]
    exact crc8_ok m _ (crcS_lt h).1
theorem crcN_succ (m : Nat) (z : Int) : crcN (m + 1) z = crcN m (crcI z) := by
  induction m with
  | zero => rfl
  | succ m ih =>
    show crcI (crcN (m + 1) z) = crcI (crcN m (crcI z))
    rw [ih]
theorem crc8_eq : ∀ (m y : Nat), y < 4294967296 → ((crc8 m y : Nat) : Int) = crcN m y
  | 0, _, _ => rfl
  | m + 1, y, h => by
    have e : crc8 (m + 1) y = crc8 m (crcS y) := forceN_eq _ _
    rw [e, crcN_succ, ← (crcS_lt h).2]
    exact crc8_eq m _ (crcS_lt h).1
theorem crcF_eq : ∀ (l : List Nat) (y : Nat), (∀ d ∈ l, d < 256) → y < 4294967296 → crcF l y < 4294967296 ∧ ((crcF l y : Nat) : Int) = crcL y l
  | [], y, _, h => ⟨h, rfl⟩
  | d :: l, y, hd, h => by
    have e : crcF (d :: l) y = crcF l (crc8 8 (Nat.xor y d)) := forceN_eq _ _
    have hx : Nat.xor y d < 4294967296 := Nat.xor_lt_two_pow (n := 32) (by omega) (by have := hd d (by simp); omega)
    have h8 := crc8_ok 8 _ hx
    obtain ⟨k1, k2⟩ := crcF_eq l (crc8 8 (Nat.xor y d)) (fun x hx => hd x (by simp [hx])) h8
    rw [e]
    refine ⟨k1, k2.trans ?_⟩
    rw [crc8_eq 8 _ hx]
    show _ = crcL (crcN 8 (bits .xor .u32 y d)) l
    rw [u32_xor_nat y d h (by have := hd d (by simp); omega)]
    rfl
theorem sumF_eq (l : List Nat) (h : ∀ d ∈ l, d < 256) : ((sumF l : Nat) : Int) = sumI l := by
  obtain ⟨k1, k2⟩ := crcF_eq l 4294967295 h (by omega)
  show ((4294967295 ^^^ crcF l 4294967295 : Nat) : Int) = bits .xor .u32 (IntKind.u32.max) (crcL 4294967295 l)
  rw [← u32_xor_nat _ _ (by omega) k1, k2]
  rfl
noncomputable def KSumX (fS : Nat) (f : FuncId) (args : List Value) (s : St) : Option (Value × St) :=
  bif Nat.beq f fS then
    match args with
    | [.slice (some a) n _] =>
      match getCells s a with
      | some cs =>
        match itemsOf 19 (takeL n (dropL a.off cs)) with
        | some es => bif (es.all (fun d => Nat.blt d 256) && Nat.beq (lenL es) n) && Nat.ble n 1000000 then forceN (sumF es) fun z => some (.int .u32 (.ofNat z), s) else none
        | none => none
      | none => none
    | _ => none
  else none
theorem known_KSumX (hG : G = 20) : Known Tryz.prog G V (KSumX 286) := by
  intro f args s v s2 hk b ρ w args' hbG hw hl cs
  unfold KSumX at hk
  obtain ⟨g0, hk1⟩ := bif_some hk
  clear hk
  have := Nat.eq_of_beq_eq_true g0
  subst this
  split at hk1
  · rename_i a n c
    split at hk1
    · rename_i cs' hc
      split at hk1
      · rename_i es hes
        obtain ⟨g1, hk2⟩ := bif_some hk1
        clear hk1
        rw [forceN_eq] at hk2
        simp only [Bool.and_eq_true, List.all_eq_true] at g1
        have hall : ∀ d ∈ es, d < 256 := fun d hd => Nat.le_of_ble_eq_true (g1.1.1 d hd)
        have hn := Nat.eq_of_beq_eq_true g1.1.2
        have hn2 := Nat.le_of_ble_eq_true g1.2
        rw [lenL_eq] at hn
        rw [takeL_eq, dropL_eq] at hes
        obtain ⟨hlen, hit⟩ := itemsOf_at hes
        injection hk2 with hk4
        injection hk4 with e3 e4
        subst e3; subst e4
        obtain ⟨loc, hl1, hl2⟩ := sym_at (i := 19) hbG hw (by omega)
        have hsp := no_spot hc
        cases hl with
        | cons _ v1 _ _ hv1 ht =>
        cases ht
        cases hv1 with
        | sliceE a a' c c' hs => rw [hsp] at hs; cases hs
        | slice a a' n c c' ha hcr =>
          obtain ⟨bk, o, rfl, hcell⟩ := cells_at hw hc ha
          have key := sum_ex bk o n c' w es hn (by omega) (fun j hj => by
            obtain ⟨d, hd⟩ : ∃ d, es[j]? = some d := ⟨_, List.getElem?_eq_getElem (by omega)⟩
            have hlt : j < ((cs'.drop a.off).take n).length := by omega
            obtain ⟨v, hv⟩ : ∃ v, ((cs'.drop a.off).take n)[j]? = some v := ⟨_, List.getElem?_eq_getElem hlt⟩
            obtain ⟨d', hd', hio⟩ := hit j v hv
            rw [hd] at hd'
            injection hd' with hd'
            subst hd'
            rw [List.getElem?_take, if_pos hj] at hv
            obtain ⟨v', q1, q2⟩ := hcell j v hv
            have q3 := itemOf_ok hio hl1 q2
            subst q3
            have hd2 := hall d (List.mem_of_getElem? hd)
            have e : (itemB loc.sh d).toNat = d := by
              unfold itemB
              rw [if_pos hd2, UInt8.toNat_ofNat']
              omega
            rw [e] at q1
            exact ⟨d, hd, hd2, q1⟩)
          exact known_rel (v' := .int .u32 (.ofNat (sumF es))) hw (.int _ _) (key.mono fun _ _ h => ⟨by rw [h.1, ← sumF_eq es hall]; rfl, by rw [h.2]; exact Below.refl _ _⟩) cs
      · cases hk1
    · cases hk1
  · cases hk1
end
end Go.Proofs.YtdhkebolenbpiaaGreatDoor.X
