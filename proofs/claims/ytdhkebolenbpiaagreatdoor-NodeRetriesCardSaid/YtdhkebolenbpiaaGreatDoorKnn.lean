/- A runner for closed calls, part 14: Zo. -/
import Derived.Test.YtdhkebolenbpiaaGreatDoorKnm
namespace Go.Proofs.YtdhkebolenbpiaaGreatDoor.X
open Go.RowKit

/-! ### The law's own names: what is known of functions of them -/
section
variable {P : Program} {G V : Nat}
noncomputable def pSeg (f n1 n2 : Nat) (x v : Value) : Seg := ⟨f, [x], [], n1, v, [], n2⟩
theorem KR_pure {f n1 n2 : Nat} {x v : Value} (hx : ∀ σ, ren σ x = x) (hs : sameF x x = true) (hv : ∀ σ, ren σ v = v) (s : St) : KR G (pSeg f n1 n2 x v) f [x] s = some (v, { heap := s.heap, next := s.next + (n2 - n1) }) := by
  have hl : ∀ σ, renL σ [x] = [x] := fun σ => by show ren σ x :: [] = _; rw [hx]
  have hsm : samesF [x] [x] = true := by
    show iff' (sameF x x) (samesF [] []) false = true
    rw [iff_eq, hs]
    rfl
  unfold KR
  rw [iff_eq, show Nat.beq f (pSeg f n1 n2 x v).f = true from Nat.beq_refl f, cond_true, iff_eq, show (pSeg f n1 n2 x v).args = [x] from rfl, hl, hsm, cond_true]
  unfold KR1
  rw [iff_eq, show (pSeg f n1 n2 x v).args = [x] from rfl, hl, hsm]
  show (bif true && (true && (true && (true && true))) then some (ren _ v, _) else none) = _
  simp only [Bool.and_true, cond_true]
  rw [hv]
  rfl
theorem ren_int {σ : Nat → Nat} {k : IntKind} {n : Int} : ren σ (.int k n) = .int k n := by unfold ren; rfl
theorem ren_str {σ : Nat → Nat} {b : ByteArray} : ren σ (.string b) = .string b := by unfold ren; rfl
theorem ren_bool {σ : Nat → Nat} {b : Bool} : ren σ (.bool b) = .bool b := by unfold ren; rfl
theorem same_int {k : IntKind} {n : Int} : sameF (.int k n) (.int k n) = true := by rw [sameF_eq]; simp [same]
theorem same_str {b : ByteArray} : sameF (.string b) (.string b) = true := by rw [sameF_eq]; unfold same; rw [sameB_eq]; simp

/-- A name: s, two letters, x. -/
noncomputable def nameL (j : Nat) : List UInt8 := [115, UInt8.ofNat (97 + j % 26), UInt8.ofNat (97 + j / 26), 120]
noncomputable def nameV (j : Nat) : Value := .string ⟨⟨nameL j⟩⟩
def jOf (V m : Nat) : Nat := ((Int.tmod (fldK V) 676 + m) % 676).toNat
theorem jOf_lt (V m : Nat) : jOf V m < 676 := by unfold jOf; omega
def lfOf (c m : Nat) : Nat := bif Nat.beq m c then 256 else 258 + 2 * m
def tcode (c m : Nat) : Nat := 1 + 2 * (4 + 4294967296 * (2147483648 + 4294967296 * (115 + 1024 * (lfOf c m + 1024 * (lfOf c m + 1 + 1024 * 120)))))
noncomputable def tcOk (c m : Nat) : Bool :=
  isTxt (tcode c m) && (match tItems (tcode c m) with | [a, b, d, e] => (Nat.beq a 115 && Nat.beq b (lfOf c m)) && ((Nat.beq d (lfOf c m + 1) && Nat.blt d 512) && Nat.beq e 120) | _ => false)
/-- What is asked of the symbol's number. -/
structure HV (h : Nat → Nat) (c V : Nat) : Prop where
  kr : -9223372036854775808 ≤ fldK V ∧ fldK V ≤ 9223372036854775807
  l1 : ∀ m, m ≤ c → fldQ (lfOf c m) V = 97 + jOf V m % 26
  l2 : ∀ m, m ≤ c → fldQ (lfOf c m + 1) V = 97 + jOf V m / 26
  lo : h (jOf V c) ≤ 2147483647
  hi : ∀ m, m < c → 2147483648 ≤ h (jOf V m) ∧ h (jOf V m) ≤ 4294967295
theorem lf_ge (c m : Nat) : 256 ≤ lfOf c m := by
  unfold lfOf
  cases Nat.beq m c
  · show 256 ≤ 258 + 2 * m; omega
  · exact Nat.le_refl _
theorem tc_name {h : Nat → Nat} {c m : Nat} (hk : tcOk c m = true) (hm : m ≤ c) (H : HV h c V) : svV (tcode c m) V = nameV (jOf V m) := by
  unfold tcOk at hk
  rw [Bool.and_eq_true] at hk
  rw [sv_txt V hk.1]
  have hk2 := hk.2
  split at hk2
  · rename_i a b d e hi
    simp only [Bool.and_eq_true] at hk2
    have e1 := Nat.eq_of_beq_eq_true hk2.1.1
    have e2 := Nat.eq_of_beq_eq_true hk2.1.2
    have e3 := Nat.eq_of_beq_eq_true hk2.2.1.1
    have e5 : d < 512 := Nat.le_of_ble_eq_true hk2.2.1.2
    have e4 := Nat.eq_of_beq_eq_true hk2.2.2
    subst e1; subst e2; subst e3; subst e4
    have hj := jOf_lt V m
    have hg := lf_ge c m
    have g : ∀ q z, 256 ≤ q → q < 512 → fldQ q V = 97 + z → z < 26 → itemB V q = UInt8.ofNat (97 + z) := fun q z hq hq2 he hz => by
      unfold itemB
      rw [if_neg (by omega), if_pos hq2, he, clamp_id]
      · congr 1
        rw [Nat.pow_zero, Nat.div_one]
        exact Nat.mod_eq_of_lt (by omega)
      · rw [Nat.pow_zero, Nat.div_one, Nat.mod_eq_of_lt (by omega)]; omega
      · rw [Nat.pow_zero, Nat.div_one, Nat.mod_eq_of_lt (by omega)]; omega
    unfold txtB nameV nameL
    rw [hi]
    show Value.string ⟨⟨[itemB V 115, itemB V (lfOf c m), itemB V (lfOf c m + 1), itemB V 120]⟩⟩ = _
    have c1 : ∀ d, d < 256 → itemB V d = UInt8.ofNat d := fun d hd => if_pos hd
    rw [g _ _ hg (by omega) (H.l1 m hm) (by omega), g _ _ (by omega) e5 (H.l2 m hm) (by omega), c1 115 (by omega), c1 120 (by omega)]
    rfl
  · cases hk2

/-! The symbol's number, made of its fields -/
def pkF (F : Nat → Nat) (K : Nat) : Nat → Nat → Nat
  | 0, _ => K
  | n + 1, s => F s + 2 ^ 64 * pkF F K n (s + 1)
theorem pkF_fld {F : Nat → Nat} {K : Nat} (hF : ∀ q, F q < 2 ^ 64) : ∀ (n s q : Nat), q < n → pkF F K n s / 2 ^ (64 * q) % 2 ^ 64 = F (s + q)
  | 0, _, _, h => by omega
  | n + 1, s, 0, _ => by
    show (F s + 2 ^ 64 * pkF F K n (s + 1)) / 2 ^ (64 * 0) % 2 ^ 64 = F (s + 0)
    rw [Nat.mul_zero, Nat.pow_zero, Nat.div_one, Nat.add_mul_mod_self_left, Nat.mod_eq_of_lt (hF s), Nat.add_zero]
  | n + 1, s, q + 1, h => by
    show (F s + 2 ^ 64 * pkF F K n (s + 1)) / 2 ^ (64 * (q + 1)) % 2 ^ 64 = F (s + (q + 1))
    have e : 2 ^ (64 * (q + 1)) = 2 ^ 64 * 2 ^ (64 * q) := by rw [Nat.mul_add, Nat.mul_one, Nat.pow_add, Nat.mul_comm]
    rw [e, ← Nat.div_div_eq_div_mul, Nat.add_mul_div_left _ _ (Nat.two_pow_pos 64), Nat.div_eq_of_lt (hF s), Nat.zero_add, pkF_fld hF n (s + 1) q (by omega), show s + 1 + q = s + (q + 1) by omega]
theorem pkF_top {F : Nat → Nat} {K : Nat} (hF : ∀ q, F q < 2 ^ 64) : ∀ (n s : Nat), pkF F K n s / 2 ^ (64 * n) = K
  | 0, _ => by show K / 2 ^ (64 * 0) = K; rw [Nat.mul_zero, Nat.pow_zero, Nat.div_one]
  | n + 1, s => by
    show (F s + 2 ^ 64 * pkF F K n (s + 1)) / 2 ^ (64 * (n + 1)) = K
    have e : 2 ^ (64 * (n + 1)) = 2 ^ 64 * 2 ^ (64 * n) := by rw [Nat.mul_add, Nat.mul_one, Nat.pow_add, Nat.mul_comm]
    rw [e, ← Nat.div_div_eq_div_mul, Nat.add_mul_div_left _ _ (Nat.two_pow_pos 64), Nat.div_eq_of_lt (hF s), Nat.zero_add, pkF_top hF n (s + 1)]
def jAt (k : Int) (m : Nat) : Nat := ((Int.tmod k 676 + m) % 676).toNat
def fOf (k : Int) (c E q : Nat) : Nat :=
  if q = 255 then E else if q = 256 then 97 + jAt k c % 26 else if q = 257 then 97 + jAt k c / 26 else
  if (q - 258) % 2 = 0 then 97 + jAt k ((q - 258) / 2) % 26 else 97 + jAt k ((q - 258) / 2) / 26
theorem jAt_lt (k : Int) (m : Nat) : jAt k m < 676 := by unfold jAt; omega
theorem fOf_lt (k : Int) (c : Nat) {E : Nat} (hE : E < 2 ^ 64) (q : Nat) : fOf k c E q < 2 ^ 64 := by
  have h1 := jAt_lt k c
  have h2 := jAt_lt k ((q - 258) / 2)
  unfold fOf
  split
  · exact hE
  · split
    · omega
    · split
      · omega
      · split
        · omega
        · omega
/-- The number that holds k and the letters of the names behind it. -/
def vOf (k : Int) (c E K : Nat) : Nat := pkF (fOf k c E) K 1024 0
theorem pkF_topN {F : Nat → Nat} {K : Nat} (hF : ∀ q, F q < 2 ^ 64) {n e : Nat} (he : e = 64 * n) : pkF F K n 0 / 2 ^ e = K := by
  subst he
  exact pkF_top hF n 0
theorem fldK_eq (V : Nat) {e : Nat} (he : e = 65536) {x : Nat} (h : V / 2 ^ e = x) : fldK V = symI x := by
  subst he
  exact congrArg symI h
theorem vOf_K {k : Int} {c E K : Nat} (hE : E < 2 ^ 64) (hK : symI K = k) : fldK (vOf k c E K) = k := by
  obtain ⟨e, he1, he2⟩ : ∃ e : Nat, e = 65536 ∧ e = 64 * 1024 := ⟨65536, rfl, rfl⟩
  exact (fldK_eq _ he1 (pkF_topN (fOf_lt k c hE) he2)).trans hK
theorem vOf_q {k : Int} {c E K q : Nat} (hE : E < 2 ^ 64) (hq : q < 1024) : fldQ q (vOf k c E K) = fOf k c E q := by
  unfold fldQ vOf
  rw [pkF_fld (fOf_lt k c hE) 1024 0 q hq, Nat.zero_add]
theorem HV_of {h : Nat → Nat} {k : Int} {c E K : Nat} (hE : E < 2 ^ 64) (hK : symI K = k) (hc : c < 300) (hr : -9223372036854775808 ≤ k ∧ k ≤ 9223372036854775807) (hlo : h (jAt k c) ≤ 2147483647) (hhi : ∀ m, m < c → 2147483648 ≤ h (jAt k m) ∧ h (jAt k m) ≤ 4294967295) : HV h c (vOf k c E K) := by
  have hj : ∀ m, jOf (vOf k c E K) m = jAt k m := fun m => by unfold jOf jAt; rw [vOf_K hE hK]
  refine ⟨by rw [vOf_K hE hK]; exact hr, fun m hm => ?_, fun m hm => ?_, by rw [hj]; exact hlo, fun m hm => by rw [hj]; exact hhi m hm⟩
  · rw [hj]
    unfold lfOf
    cases hq : Nat.beq m c with
    | true =>
      have := Nat.eq_of_beq_eq_true hq
      subst this
      show fldQ 256 _ = _
      rw [vOf_q hE (by omega)]
      rfl
    | false =>
      show fldQ (258 + 2 * m) _ = _
      rw [vOf_q hE (by omega)]
      unfold fOf
      rw [if_neg (by omega), if_neg (by omega), if_neg (by omega), show 258 + 2 * m - 258 = 2 * m by omega, if_pos (by omega), show 2 * m / 2 = m by omega]
  · rw [hj]
    unfold lfOf
    cases hq : Nat.beq m c with
    | true =>
      have := Nat.eq_of_beq_eq_true hq
      subst this
      show fldQ (256 + 1) _ = _
      rw [vOf_q hE (by omega)]
      rfl
    | false =>
      show fldQ (258 + 2 * m + 1) _ = _
      rw [vOf_q hE (by omega)]
      unfold fOf
      rw [if_neg (by omega), if_neg (by omega), if_neg (by omega), show 258 + 2 * m + 1 - 258 = 2 * m + 1 by omega, if_neg (by omega), show (2 * m + 1) / 2 = m by omega]
/-- Which of the names. -/
noncomputable def pFind (p : Nat → Bool) (fuel : Nat) : Option Nat :=
  Nat.rec (motive := fun _ => Option Nat) none (fun m r => Bool.rec (motive := fun _ => Option Nat) r (some m) (p m)) fuel
theorem pFind_ok {p : Nat → Bool} : ∀ {fuel m : Nat}, pFind p fuel = some m → p m = true
  | 0, _, h => by cases h
  | f + 1, m, h => by
    have h : Bool.rec (motive := fun _ => Option Nat) (pFind p f) (some f) (p f) = some m := h
    cases hq : p f with
    | false => rw [hq] at h; exact pFind_ok h
    | true =>
      rw [hq] at h
      have h : some f = some m := h
      injection h with h
      subst h
      exact hq
noncomputable def mFind (c n : Nat) : Option Nat := pFind (fun m => Nat.beq (tcode c m) n && Nat.ble m c) (Nat.succ c)
theorem mFind_ok {c n m : Nat} (h : mFind c n = some m) : tcode c m = n ∧ m ≤ c := by
  have hq := pFind_ok h
  rw [Bool.and_eq_true] at hq
  exact ⟨Nat.eq_of_beq_eq_true hq.1, Nat.le_of_ble_eq_true hq.2⟩
/-- A function of a name: what it gives, abstractly. -/
noncomputable def KNm (G c fn d : Nat) (out : Nat → Option Value) (f : FuncId) (args : List Value) (s : St) : Option (Value × St) :=
  bif Nat.beq f fn then
    match args with
    | [.complex .f64 i n] =>
      bif Nat.beq (Nat.succ i) G then
        match mFind c n with
        | some m => bif tcOk c m then (match out m with | some v => some (v, { heap := s.heap, next := s.next + d }) | none => none) else none
        | none => none
      else none
    | _ => none
  else none
theorem known_KNm {h : Nat → Nat} {c fn d n1 : Nat} {out : Nat → Option Value} {res : Nat → Value} (H : HV h c V) (hgood : ∀ j, j < 676 → Good P G V (pSeg fn n1 (n1 + d) (nameV j) (res j)))
    (hres : ∀ j σ, ren σ (res j) = res j) (hout : ∀ m, m ≤ c → ∀ a, out m = some a → ∀ {ρ : Ren} {v' : Value}, VRel ρ (res (jOf V m)) v' → VRel ρ a v') : Known P G V (KNm G c fn d out) := by
  intro f args s v s2 hk b ρ w args' hbG hw hl cs
  unfold KNm at hk
  obtain ⟨g0, hk1⟩ := bif_some hk
  clear hk
  have := Nat.eq_of_beq_eq_true g0
  subst this
  split at hk1
  · rename_i i n
    obtain ⟨g1, hk2⟩ := bif_some hk1
    clear hk1
    have hi := Nat.eq_of_beq_eq_true g1
    split at hk2
    · rename_i m hm
      obtain ⟨g2, hk3⟩ := bif_some hk2
      clear hk2
      obtain ⟨e1, e2⟩ := mFind_ok hm
      subst e1
      split at hk3
      · rename_i a ha
        injection hk3 with hk4
        injection hk4 with e3 e4
        subst e3; subst e4
        have hbG0 := hbG
        injection hbG with hG hV
        cases hl with
        | cons _ v1 _ _ hv1 ht =>
        cases ht
        cases hv1 with
        | sstr _ _ l _ hlo hv =>
        have hgl := hw.glob i (by omega)
        rw [hlo] at hgl
        injection hgl with hgl
        have hsh : l.sh = V := by rw [hgl]; show (if i + 1 = b.G then b.val else 0) = V; rw [if_pos (by omega), hV]
        rw [hsh, tc_name g2 e2 H] at hv
        subst hv
        have hj := jOf_lt V m
        have hkr := KR_pure (G := G) (f := f) (n1 := n1) (n2 := n1 + d) (x := nameV (jOf V m)) (v := res (jOf V m)) (fun σ => ren_str) same_str (hres _) s
        rw [show n1 + d - n1 = d by omega] at hkr
        obtain ⟨ρ', v', w', h1, h2, h3⟩ := hgood _ hj hkr hbG0 hw (.cons _ _ _ _ (.string _) .nil) cs
        exact ⟨ρ', v', w', h1, hout m e2 a ha h2, h3⟩
      · cases hk3
    · cases hk2
  · cases hk1
/-- Numbers from -675 on. -/
def stX (i : Nat) : Int := bif Nat.blt i 675 then .negSucc (674 - i) else .ofNat (i - 675)
theorem stX_eq (i : Nat) : stX i = (i : Int) - 675 := by
  unfold stX
  cases hb : Nat.blt i 675 with
  | true =>
    have : i < 675 := Nat.le_of_ble_eq_true hb
    show Int.negSucc (674 - i) = _
    rw [Int.negSucc_eq]
    omega
  | false =>
    have : ¬ i < 675 := fun h => by rw [show Nat.blt i 675 = true from Nat.ble_eq_true_of_le h] at hb; cases hb
    show ((i - 675 : Nat) : Int) = _
    omega
/-- The names behind the law's number. -/
noncomputable def KStr (G c fn d : Nat) (f : FuncId) (args : List Value) (s : St) : Option (Value × St) :=
  bif Nat.beq f fn then
    match args with
    | [.complex .f64 i n] => bif (Nat.beq (Nat.succ i) G && okR (nLo n) n) && (Nat.ble (nLo n) c && tcOk c (nLo n)) then some (.complex .f64 i (tcode c (nLo n)), { heap := s.heap, next := s.next + d }) else none
    | _ => none
  else none
theorem known_KStr {h : Nat → Nat} {c fn d n1 : Nat} (H : HV h c V) (hc : c ≤ 24) (hgood : ∀ i, i < 1376 → Good P G V (pSeg fn n1 (n1 + d) (.int .i64 (stX i)) (nameV ((i + 1) % 676)))) : Known P G V (KStr G c fn d) := by
  intro f args s v s2 hk b ρ w args' hbG hw hl cs
  unfold KStr at hk
  obtain ⟨g0, hk1⟩ := bif_some hk
  clear hk
  have := Nat.eq_of_beq_eq_true g0
  subst this
  split at hk1
  · rename_i i n
    obtain ⟨g1, hk2⟩ := bif_some hk1
    clear hk1
    simp only [Bool.and_eq_true] at g1
    have hi := Nat.eq_of_beq_eq_true g1.1.1
    have e2 := Nat.le_of_ble_eq_true g1.2.1
    have g2 := g1.2.2
    injection hk2 with hk4
    injection hk4 with e3 e4
    subst e3; subst e4
    have hbG0 := hbG
    injection hbG with hG hV
    cases hl with
    | cons _ v1 _ _ hv1 ht =>
    cases ht
    cases hv1 with
    | sstr _ _ l _ hlo hv =>
    have hgl := hw.glob i (by omega)
    rw [hlo] at hgl
    injection hgl with hgl
    have hsh : l.sh = V := by rw [hgl]; show (if i + 1 = b.G then b.val else 0) = V; rw [if_pos (by omega), hV]
    rw [okR_sv l.sh g1.1.2, hsh] at hv
    have h1 := Int.tmod_lt_of_pos (fldK V) (b := 676) (by omega)
    have h2 := Int.lt_tmod_of_pos (fldK V) (b := 676) (by omega)
    generalize hm : nLo n = m at *
    obtain ⟨q, hq, hq1, hq2⟩ : ∃ q : Nat, stX q = Int.tmod (fldK V) 676 + m ∧ q < 1376 ∧ (q + 1) % 676 = jOf V m := by
      refine ⟨(Int.tmod (fldK V) 676 + m + 675).toNat, ?_, by omega, ?_⟩
      · rw [stX_eq]; omega
      · unfold jOf; omega
    rw [← hq] at hv
    subst hv
    have hkr := KR_pure (G := G) (f := f) (n1 := n1) (n2 := n1 + d) (x := .int .i64 (stX q)) (v := nameV ((q + 1) % 676)) (fun σ => ren_int) same_int (fun σ => ren_str) s
    rw [show n1 + d - n1 = d by omega] at hkr
    obtain ⟨ρ', v', w', k1, k2, k3⟩ := hgood q hq1 hkr hbG0 hw (.cons _ _ _ _ (.int _ _) .nil) cs
    refine ⟨ρ', v', w', k1, ?_, k3⟩
    cases k2
    have hlo' : ρ' i = some l := (k1.ext i (by have := hw.base; omega)).trans hlo
    refine .sstr i _ l _ hlo' ?_
    rw [hsh, tc_name g2 e2 H, hq2]
    rfl
  · cases hk1
/-- The hash of a name, between bounds. -/
def mkRv (k : IntKind) (lo hi : Nat) : Option Value := match mkR k lo hi ⟨.nil, 0⟩ with | .ok v _ => some v | .no .. => none
theorem mkRv_ok {ρ : Ren} {k : IntKind} {lo hi x : Nat} {v : Value} (h : mkRv k lo hi = some v) (h1 : lo ≤ x) (h2 : x ≤ hi) : VRel ρ v (.int k x) := by
  unfold mkRv at h
  split at h
  · rename_i u s hu
    injection h with h
    subst h
    exact (mkR_ok hu h1 h2).2
  · cases h
def outG (k : IntKind) (c m A B C : Nat) : Option Value := bif Nat.beq m c then mkRv k 0 A else mkRv k B C
theorem outG_ok {ρ : Ren} {k : IntKind} {c m A B C x : Nat} {a : Value} (hA : m = c → x ≤ A) (hB : m ≠ c → B ≤ x ∧ x ≤ C) (ha : outG k c m A B C = some a) : VRel ρ a (.int k x) := by
  unfold outG at ha
  cases hq : Nat.beq m c with
  | true =>
    rw [hq] at ha
    exact mkRv_ok ha (Nat.zero_le _) (hA (Nat.eq_of_beq_eq_true hq))
  | false =>
    rw [hq] at ha
    have := hB (nat_beq_ne hq)
    exact mkRv_ok ha this.1 this.2
abbrev outH (k : IntKind) (c m : Nat) : Option Value := outG k c m 2147483647 2147483648 4294967295
theorem outH_ok {h : Nat → Nat} {k : IntKind} {c m : Nat} (H : HV h c V) (hm : m ≤ c) {a : Value} (ha : outH k c m = some a) {ρ : Ren} {v' : Value} (hv : VRel ρ (.int k (h (jOf V m) : Nat)) v') : VRel ρ a v' := by
  cases hv
  exact outG_ok (fun e => by rw [e]; exact H.lo) (fun e => H.hi m (Nat.lt_of_le_of_ne hm e)) ha
/-- FNV-1a of a name. -/
def hsStep (x b : Nat) : Nat := Nat.mod (Nat.mul (Nat.xor x b) 16777619) 4294967296
def hashN (j : Nat) : Nat := hsStep (hsStep (hsStep (hsStep 2166136261 115) (97 + j % 26)) (97 + j / 26)) 120
/-! The node's own name alone -/
theorem lf_self (c : Nat) : lfOf c c = 256 := by unfold lfOf; rw [Nat.beq_refl]; rfl
theorem tc_self (c : Nat) : tcode c c = tcode 0 0 := by unfold tcode; rw [lf_self, lf_self]
theorem tcOk_self (c : Nat) : tcOk c c = tcOk 0 0 := by unfold tcOk; rw [tc_self, lf_self, lf_self]
theorem pFind_top {p : Nat → Bool} {c : Nat} (h : p c = true) : pFind p (Nat.succ c) = some c := by
  show Bool.rec (motive := fun _ => Option Nat) (pFind p c) (some c) (p c) = some c
  rw [h]
theorem mFind_self (c : Nat) : mFind c (tcode 0 0) = some c :=
  pFind_top (p := fun m => Nat.beq (tcode c m) (tcode 0 0) && Nat.ble m c) (by
    show (Nat.beq (tcode c c) (tcode 0 0) && Nat.ble c c) = true
    rw [tc_self, Nat.beq_refl, Nat.ble_eq_true_of_le (Nat.le_refl c)]; rfl)
theorem outG_self (k : IntKind) (c A B C : Nat) : outG k c c A B C = mkRv k 0 A := by unfold outG; rw [Nat.beq_refl]; rfl
noncomputable def KNo (G fn d : Nat) (out : Option Value) (f : FuncId) (args : List Value) (s : St) : Option (Value × St) :=
  bif Nat.beq f fn then
    match args with
    | [.complex .f64 i n] => bif Nat.beq (Nat.succ i) G && Nat.beq n (tcode 0 0) then (match out with | some v => some (v, { heap := s.heap, next := s.next + d }) | none => none) else none
    | _ => none
  else none
theorem known_KNo {c fn d : Nat} {o : Nat → Option Value} {out : Option Value} (hk : Known P G V (KNm G c fn d o)) (ho : o c = out) (h0 : tcOk 0 0 = true) : Known P G V (KNo G fn d out) := by
  intro f args s v s2 h b ρ w args' hbG hw hl cs
  refine hk (f := f) (args := args) (s := s) (v := v) (s2 := s2) ?_ hbG hw hl cs
  unfold KNo at h
  obtain ⟨g0, h1⟩ := bif_some h
  clear h
  split at h1
  · rename_i i n
    obtain ⟨g1, h2⟩ := bif_some h1
    clear h1
    rw [Bool.and_eq_true] at g1
    have e := Nat.eq_of_beq_eq_true g1.2
    subst e
    unfold KNm
    rw [g0, cond_true]
    dsimp only
    rw [g1.1, cond_true, mFind_self]
    dsimp only
    rw [tcOk_self, h0, cond_true, ho]
    exact h2
  · cases h1
end
end Go.Proofs.YtdhkebolenbpiaaGreatDoor.X
