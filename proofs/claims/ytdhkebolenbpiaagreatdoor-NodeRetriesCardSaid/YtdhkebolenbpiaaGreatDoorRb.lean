/- NodeRetries: the key as a text of fields, and what is known of it. -/
import Derived.Test.YtdhkebolenbpiaaGreatDoorRa
import Derived.Test.YtdhkebolenbpiaaGreatDoorRg
import Derived.Test.YtdhkebolenbpiaaGreatDoorKnn
namespace Go.Proofs.YtdhkebolenbpiaaGreatDoor.X
open Go.RowKit S
noncomputable def kyF (n : Nat) : Nat → List Value := Nat.rec (motive := fun _ => Nat → List Value) (fun _ => []) (fun _ go i => .complex .f64 19 (45671969722733682073988549597049416365549551624 + 89202980794122492566142873090593446023921664 * i) :: go (Nat.succ i)) n
noncomputable def ky (L : Nat) : List Value := kyF L 0
noncomputable def kyN (n : Nat) : Nat → List Nat := Nat.rec (motive := fun _ => Nat → List Nat) (fun _ => []) (fun _ go i => (512 + i) :: go (Nat.succ i)) n
noncomputable def kyI (L : Nat) : List Nat := kyN L 0
noncomputable def ktx (L : Nat) : Nat := txtCode (kyI L)
def crcC : Nat := nCode .u32 0 4294967295 32 0 700
def crcB (k : Nat) : Nat := nCode .u8 0 255 8 (8 * k) 700
noncomputable def dsR (L : Nat) : List Nat := appL [(20 + L), 0, 0, 0, 3, L] (appL (kyI L) ([2, 1, 97, 0, 1, 1, 120, 1, 98, 1, 2, 1, 121, 1, 122, 5, 0, 1]))
noncomputable def rTab0 : Nat × AO := (2, .tab firstRow)
noncomputable def rTab1 : Nat × AO := (3, .tab accRow)
noncomputable abbrev K0 (r : Bool) (L T : Nat) : FuncId → List Value → St → Option (Value × St) := orK (KKey 20 212 T r 2 3) (orK (KSumR 286 crcC (dsR L)) (orK (KSumX 286) (KGet 330 crcC crcB)))
theorem crcC_sv (V : Nat) : svV crcC V = .int .u32 ((fldQ 700 V % 2 ^ 32 : Nat) : Int) := by
  have h := nfull_sv (k := .u32) (hi := 4294967295) (wd := 32) (sh := 0) (q := 700) (c := crcC) V (by kernel_rfl) (by kernel_rfl)
  rw [Nat.pow_zero, Nat.div_one] at h
  exact h
theorem crcB_sv (V : Nat) {k : Nat} (hk : k < 4) : svV (crcB k) V = .int .u8 ((fldQ 700 V / 2 ^ (8 * k) % 2 ^ 8 : Nat) : Int) := by
  obtain rfl | rfl | rfl | rfl : k = 0 ∨ k = 1 ∨ k = 2 ∨ k = 3 := by omega
  · exact nfull_sv (k := .u8) (hi := 255) (wd := 8) (sh := 8 * 0) (q := 700) (c := crcB 0) V (by kernel_rfl) (by kernel_rfl)
  · exact nfull_sv (k := .u8) (hi := 255) (wd := 8) (sh := 8 * 1) (q := 700) (c := crcB 1) V (by kernel_rfl) (by kernel_rfl)
  · exact nfull_sv (k := .u8) (hi := 255) (wd := 8) (sh := 8 * 2) (q := 700) (c := crcB 2) V (by kernel_rfl) (by kernel_rfl)
  · exact nfull_sv (k := .u8) (hi := 255) (wd := 8) (sh := 8 * 3) (q := 700) (c := crcB 3) V (by kernel_rfl) (by kernel_rfl)
/-- What is asked of the symbol's number: its fields are the key's bytes, and the check sum of the row that holds them. -/
structure HR (V L : Nat) (r : Bool) (k : ByteArray) : Prop where
  txt : isTxt (ktx L) = true
  key : txtB (ktx L) V = k
  val : keyB k = r
  crc : svV crcC V = .int .u32 (sumI ((dsR L).map fun d => (itemB V d).toNat))
  sz : k.size ≤ 9223372036854775807
theorem known_K0 {V L : Nat} {r : Bool} {k : ByteArray} (H : HR V L r k) : Known Tryz.prog 20 V (K0 r L (ktx L)) :=
  known_or (known_KKey (by decide) (by decide) H.key fun w hT => (keyF k w H.sz hT).mono fun _ _ h => ⟨by rw [h.1, H.val], h.2⟩) (known_or (known_KSumR rfl H.crc) (known_or (known_KSumX rfl) (known_KGet (q := 700) rfl (crcC_sv V) fun _ hk => crcB_sv V hk)))
/-! The number that holds a key -/
def rowB (key : List UInt8) (d : Nat) : Nat := if d < 256 then d else (key.getD (d - 512) 0).toNat
noncomputable def sumK (key : ByteArray) : Nat := (sumI ((dsR key.size).map (rowB key.data.toList))).toNat
def fldsK (key : ByteArray) (c q : Nat) : Nat := if 512 ≤ q ∧ q < 612 then (key.data.toList.getD (q - 512) 0).toNat else if q = 700 then c else 0
noncomputable def vKey (key : ByteArray) : Nat := pkF (fldsK key (sumK key)) 0 1024 0
theorem sumI_lt (l : List Nat) : 0 ≤ sumI l ∧ sumI l < 4294967296 := by
  have h1 := bits_lo_u32 .xor IntKind.u32.max (crcL 4294967295 l)
  have h2 := bits_hi_u32 .xor IntKind.u32.max (crcL 4294967295 l)
  unfold sumI
  omega
theorem sumK_lt (key : ByteArray) : sumK key < 4294967296 := by
  have := sumI_lt ((dsR key.size).map (rowB key.data.toList))
  unfold sumK
  omega
theorem fldsK_lt (key : ByteArray) (q : Nat) : fldsK key (sumK key) q < 2 ^ 64 := by
  unfold fldsK
  split
  · have := (key.data.toList.getD (q - 512) 0).toNat_lt; omega
  · split
    · have := sumK_lt key; omega
    · omega
theorem vKey_q (key : ByteArray) {q : Nat} (hq : q < 1024) : fldQ q (vKey key) = fldsK key (sumK key) q := by
  unfold fldQ vKey
  rw [pkF_fld (fldsK_lt key) 1024 0 q hq, Nat.zero_add]
theorem kyN_eq : ∀ (n i : Nat), kyN n i = (List.range n).map fun j => 512 + (i + j)
  | 0, _ => rfl
  | n + 1, i => by
    show (512 + i) :: kyN n (i + 1) = _
    rw [kyN_eq n (i + 1), List.range_succ_eq_map, List.map_cons, List.map_map]
    congr 1
    apply List.map_congr_left
    intro j _
    show 512 + (i + 1 + j) = 512 + (i + (j + 1))
    omega
theorem kyI_eq (L : Nat) : kyI L = (List.range L).map fun j => 512 + j := by
  unfold kyI
  rw [kyN_eq]
  simp
noncomputable def okK (L : Nat) : Bool := (isTxt (ktx L) && sameNs (tItems (ktx L)) (kyI L)) && (dsR L).all fun d => Nat.blt d 256 || (Nat.ble 512 d && Nat.blt d (512 + L))
theorem okK_all : allFrom okK 100 1 = true := by kernel_rfl
theorem itemB_key (key : ByteArray) {d : Nat} (h : d < 256 ∨ (512 ≤ d ∧ d < 612)) : (itemB (vKey key) d).toNat = rowB key.data.toList d := by
  rcases h with h | ⟨h1, h2⟩
  · unfold itemB rowB
    rw [if_pos h, if_pos h, UInt8.toNat_ofNat']
    omega
  · unfold itemB rowB
    rw [if_neg (by omega), if_neg (by omega), if_neg (by omega), vKey_q key (by omega)]
    unfold fldsK
    rw [if_pos ⟨h1, h2⟩, Nat.pow_zero, Nat.div_one]
    have := (key.data.toList.getD (d - 512) 0).toNat_lt
    rw [Nat.mod_eq_of_lt (by omega), clamp_id (by omega) (by omega), UInt8.toNat_ofNat']
    omega
theorem HR_of (key : ByteArray) (h1 : 1 ≤ key.size) (h2 : key.size ≤ 100) : HR (vKey key) key.size (keyB key) key := by
  have hk := allFrom_at okK_all (j := key.size) h1 (by omega)
  unfold okK at hk
  simp only [Bool.and_eq_true, List.all_eq_true, Bool.or_eq_true] at hk
  obtain ⟨⟨ht, hs⟩, hd⟩ := hk
  have hsz : key.data.toList.length = key.size := rfl
  refine ⟨ht, ?_, rfl, ?_, by omega⟩
  · unfold txtB
    rw [sameNs_eq hs, kyI_eq]
    have : (List.map (itemB (vKey key)) ((List.range key.size).map fun j => 512 + j)) = key.data.toList := by
      apply List.ext_getElem?
      intro j
      rw [List.getElem?_map, List.getElem?_map]
      by_cases hj : j < key.size
      · rw [List.getElem?_range hj, List.getElem?_eq_getElem (by omega)]
        simp only [Option.map_some, Option.some.injEq]
        apply UInt8.toNat_inj.1
        rw [itemB_key key (.inr ⟨by omega, by omega⟩)]
        unfold rowB
        rw [if_neg (by omega), show 512 + j - 512 = j by omega]
        simp [List.getD_eq_getElem?_getD, List.getElem?_eq_getElem (show j < key.data.toList.length by omega)]
      · rw [List.getElem?_eq_none (by simp; omega), List.getElem?_eq_none (by omega)]
        rfl
    rw [this]
  · rw [crcC_sv, vKey_q key (by omega)]
    have e : (dsR key.size).map (fun d => (itemB (vKey key) d).toNat) = (dsR key.size).map (rowB key.data.toList) := by
      apply List.map_congr_left
      intro d hdm
      apply itemB_key
      rcases hd d hdm with h | h
      · exact .inl (Nat.le_of_ble_eq_true h)
      · have a := Nat.le_of_ble_eq_true h.1
        have b : d < 512 + key.size := Nat.le_of_ble_eq_true h.2
        exact .inr ⟨a, by omega⟩
    rw [e]
    have hl := sumI_lt ((dsR key.size).map (rowB key.data.toList))
    have hK : fldsK key (sumK key) 700 = sumK key := rfl
    rw [hK]
    unfold sumK
    congr 1
    omega
end Go.Proofs.YtdhkebolenbpiaaGreatDoor.X
