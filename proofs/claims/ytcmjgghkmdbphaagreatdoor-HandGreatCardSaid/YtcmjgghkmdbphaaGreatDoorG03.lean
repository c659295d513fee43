/- The library's small loops over slices. Words for maps: a map's entries, told one behind the other. The library's DeleteFunc and Equal over texts. -/
import Derived.Test.YtcmjgghkmdbphaaGreatDoorG02
import Derived.Test.YtcmjgghkmdbphaaGreatDoorG01
import Derived.MapKept
import Derived.Maps.OwnSet
import Derived.Lib.SliceRun
set_option maxRecDepth 20000
set_option maxHeartbeats 25600000
namespace Go.Proofs.YtcmjgghkmdbphaaGreatDoor
open Go.RowKit
theorem StrR_size : StrR.size = 1 := rfl
theorem IntR_size : IntR.size = 1 := rfl
theorem RangeR_size : RangeR.size = 4 := rfl
theorem PutR_size : PutR.size = 3 := rfl
theorem StreamR_size : StreamR.size = 3 := rfl
theorem EventR_size : EventR.size = 7 := rfl
theorem KnownR_size : KnownR.size = 5 := rfl
theorem RecR_size : RecR.size = 18 := rfl
def idxI {α : Type} (p : α → Bool) (l : List α) : Int := match l.findIdx? p with | some i => (i : Int) | none => -1
theorem idxI_some {α : Type} {p : α → Bool} {l : List α} {k : Nat} {a : α} (hk : l[k]? = some a) (ha : p a = true) (hb : ∀ (j : Nat) (b : α), j < k → l[j]? = some b → p b = false) : idxI p l = k := by
 have hl := (List.getElem?_eq_some_iff.1 hk).1
 have he := (List.getElem?_eq_some_iff.1 hk).2
 have : l.findIdx? p = some k := by
  rw [List.findIdx?_eq_some_iff_getElem]
  refine ⟨hl, by rw [he]; exact ha, fun j hj => ?_⟩
  have := hb j _ hj (jg (by omega))
  simp [this]
 unfold idxI; rw [this]
theorem idxI_none {α : Type} {p : α → Bool} {l : List α} (hb : ∀ (j : Nat) (b : α), l[j]? = some b → p b = false) : idxI p l = -1 := by
 have : l.findIdx? p = none := by
  rw [List.findIdx?_eq_none_iff]
  intro x hx
  obtain ⟨j, hj⟩ := List.getElem?_of_mem hx
  exact hb j x hj
 unfold idxI; rw [this]
theorem idxI_bd {α : Type} (p : α → Bool) (l : List α) : -1 ≤ idxI p l ∧ idxI p l < l.length := by
 unfold idxI
 cases h : l.findIdx? p with
 | none => simp; omega
 | some i =>
   have := List.findIdx?_eq_some_iff_getElem.1 h
   obtain ⟨hi, _⟩ := this
   simp; omega
theorem idxI_any {α : Type} (p : α → Bool) (l : List α) : decide (0 ≤ idxI p l) = l.any p := by
 unfold idxI
 cases h : l.findIdx? p with
 | none =>
   rw [List.findIdx?_eq_none_iff] at h
   rw [Bool.eq_iff_iff]
   simp
   exact h
 | some i =>
   obtain ⟨hi, h1, _⟩ := List.findIdx?_eq_some_iff_getElem.1 h
   rw [Bool.eq_iff_iff]
   simp
   exact ⟨_, List.getElem_mem hi, h1⟩
def Tells {α : Type} (R : Rep α) (V : List Value → Value) (F : FuncId) (caps : List Value) (P : Nat → Prop) (p : α → Bool) (l : List α) (w : World) : Prop :=
 ∀ (a : α) (cs : List Value) (W : World), a ∈ l → R.rep W P cs a → Below w.heap.size w W → Calls Tryz.prog F (V cs :: caps).toArray W fun e W' => e = .returned (.bool (p a)) ∧ Below W.heap.size W W'
def aggV (cs : List Value) : Value := .agg cs.toArray
def oneV (cs : List Value) : Value := cs.headD undef
theorem idxF_Range (F : FuncId) (caps : List Value) (p : Range → Bool) (hent : ∀ args w, (callFunc F args).run Tryz.prog w = .ok (.enter F args) w) (A : Option Addr) (c : Nat) (l : List Range) (P : Nat → Prop) (w : World) (hr : RangeR.Row w P A l) (hl : l.length ≤ 9223372036854775807) (hF : Tells RangeR aggV F caps P p l w) :
 Calls Tryz.prog 139 #[.slice A l.length c, .func (.func F) #[] caps.toArray] w fun e w' => e = .returned (.int .i64 (idxI p l)) ∧ Below w.heap.size w w' := by
 have HF := jh hF; clear hF
 have HR := jh hr; clear hr
 go_enter Tryz.func139, Tryz.ntmps139
 go_wp2
 go_loopw [5, 8] (fun _ i wr => ∃ k : Nat, k ≤ l.length ∧ i = .int .i64 k ∧ (∀ (j : Nat) (b : Range), j < k → l[j]? = some b → p b = false) ∧ Below w.heap.size w wr) (fun _ i _ => l.length - (intOf i).toNat)
 case atStart => exact ⟨0, Nat.zero_le _, rfl, fun j b hj => absurd hj (by omega), jb _ _⟩
 case round =>
  obtain ⟨k, hk, rfl, hno, hbl⟩ := hrel
  have HN := jh hno; clear hno
  by_cases hlt : k < l.length
  ·have hlk := jg hlt
   generalize l[k] = a at hlk
   obtain ⟨b, o, cs, rfl, hP, hbw, hrep, hcs⟩ := (HR.out.ext hbl).at_ hlk
   have C := HF.out a cs wr (List.mem_of_getElem? hlk) hrep hbl
   have HK := jh hlk; clear hlk
   have hlt' : (k : Int) < l.length := by omega
   obtain ⟨rfl, _⟩ := range_rep.1 hrep
   have c0 := hcs 0 _ rfl; have c1 := hcs 1 _ rfl; have c2 := hcs 2 _ rfl; have c3 := hcs 3 _ rfl; simp only [RangeR_size, Nat.add_zero] at c0 c1 c2 c3
   dsimp only [aggV, Range.cells] at C
   clear hcs
   try clear hrep
   have HC := jh C; clear C
   go_wp2_with fail
   refine HC.out.mono ?_
   cases hp : p a with
   | true =>
     have HP := jh hp; clear hp
     rintro e w1 ⟨rfl, hb1⟩
     go_wp2
     go_ret
     exact ⟨ret_int (idxI_some HK.out HP.out HN.out).symm, hbl.tr hb1⟩
   | false =>
     have HP := jh hp; clear hp
     rintro e w1 ⟨rfl, hb1⟩
     go_wp2
     go_round
     case rel =>
      refine ⟨k + 1, by omega, by go_num, fun j x hj hx => ?_, hbl.tr hb1⟩
      by_cases hjk : j < k
      ·exact HN.out j x hjk hx
      ·have : j = k := by omega
       subst this
       have h1 := HK.out
       rw [hx] at h1
       injection h1 with h1
       rw [h1]; exact HP.out
     case measure => simp [intOf]; omega
  ·go_wp2
   go_ret
   refine ⟨ret_int (idxI_none fun j x hx => HN.out j x ?_ hx).symm, hbl⟩
   have := (List.getElem?_eq_some_iff.1 hx).1
   omega
theorem idxF_string (F : FuncId) (caps : List Value) (p : Str → Bool) (hent : ∀ args w, (callFunc F args).run Tryz.prog w = .ok (.enter F args) w) (A : Option Addr) (c : Nat) (l : List Str) (P : Nat → Prop) (w : World) (hr : StrR.Row w P A l) (hl : l.length ≤ 9223372036854775807) (hF : Tells StrR oneV F caps P p l w) :
 Calls Tryz.prog 307 #[.slice A l.length c, .func (.func F) #[] caps.toArray] w fun e w' => e = .returned (.int .i64 (idxI p l)) ∧ Below w.heap.size w w' := by
 have HF := jh hF; clear hF
 have HR := jh hr; clear hr
 go_enter Tryz.func307, Tryz.ntmps307
 go_wp2
 go_loopw [5, 8] (fun _ i wr => ∃ k : Nat, k ≤ l.length ∧ i = .int .i64 k ∧ (∀ (j : Nat) (b : Str), j < k → l[j]? = some b → p b = false) ∧ Below w.heap.size w wr) (fun _ i _ => l.length - (intOf i).toNat)
 case atStart => exact ⟨0, Nat.zero_le _, rfl, fun j b hj => absurd hj (by omega), jb _ _⟩
 case round =>
  obtain ⟨k, hk, rfl, hno, hbl⟩ := hrel
  have HN := jh hno; clear hno
  by_cases hlt : k < l.length
  ·have hlk := jg hlt
   generalize l[k] = a at hlk
   obtain ⟨b, o, cs, rfl, hP, hbw, hrep, hcs⟩ := (HR.out.ext hbl).at_ hlk
   have C := HF.out a cs wr (List.mem_of_getElem? hlk) hrep hbl
   have HK := jh hlk; clear hlk
   have hlt' : (k : Int) < l.length := by omega
   obtain ⟨rfl, _⟩ := hrep
   have c0 := hcs 0 _ rfl; simp only [StrR_size, Nat.add_zero, Nat.mul_one] at c0
   dsimp only [oneV, List.headD_cons] at C
   clear hcs
   try clear hrep
   have HC := jh C; clear C
   go_wp2_with fail
   refine HC.out.mono ?_
   cases hp : p a with
   | true =>
     have HP := jh hp; clear hp
     rintro e w1 ⟨rfl, hb1⟩
     go_wp2
     go_ret
     exact ⟨ret_int (idxI_some HK.out HP.out HN.out).symm, hbl.tr hb1⟩
   | false =>
     have HP := jh hp; clear hp
     rintro e w1 ⟨rfl, hb1⟩
     go_wp2
     go_round
     case rel =>
      refine ⟨k + 1, by omega, by go_num, fun j x hj hx => ?_, hbl.tr hb1⟩
      by_cases hjk : j < k
      ·exact HN.out j x hjk hx
      ·have : j = k := by omega
       subst this
       have h1 := HK.out
       rw [hx] at h1
       injection h1 with h1
       rw [h1]; exact HP.out
     case measure => simp [intOf]; omega
  ·go_wp2
   go_ret
   refine ⟨ret_int (idxI_none fun j x hx => HN.out j x ?_ hx).symm, hbl⟩
   have := (List.getElem?_eq_some_iff.1 hx).1
   omega
theorem idxF_Put (F : FuncId) (caps : List Value) (p : Put → Bool) (hent : ∀ args w, (callFunc F args).run Tryz.prog w = .ok (.enter F args) w) (A : Option Addr) (c : Nat) (l : List Put) (P : Nat → Prop) (w : World) (hr : PutR.Row w P A l) (hl : l.length ≤ 9223372036854775807) (hF : Tells PutR aggV F caps P p l w) :
 Calls Tryz.prog 216 #[.slice A l.length c, .func (.func F) #[] caps.toArray] w fun e w' => e = .returned (.int .i64 (idxI p l)) ∧ Below w.heap.size w w' := by
 have HF := jh hF; clear hF
 have HR := jh hr; clear hr
 go_enter Tryz.func216, Tryz.ntmps216
 go_wp2
 go_loopw [5, 8] (fun _ i wr => ∃ k : Nat, k ≤ l.length ∧ i = .int .i64 k ∧ (∀ (j : Nat) (b : Put), j < k → l[j]? = some b → p b = false) ∧ Below w.heap.size w wr) (fun _ i _ => l.length - (intOf i).toNat)
 case atStart => exact ⟨0, Nat.zero_le _, rfl, fun j b hj => absurd hj (by omega), jb _ _⟩
 case round =>
  obtain ⟨k, hk, rfl, hno, hbl⟩ := hrel
  have HN := jh hno; clear hno
  by_cases hlt : k < l.length
  ·have hlk := jg hlt
   generalize l[k] = a at hlk
   obtain ⟨b, o, cs, rfl, hP, hbw, hrep, hcs⟩ := (HR.out.ext hbl).at_ hlk
   have C := HF.out a cs wr (List.mem_of_getElem? hlk) hrep hbl
   have HK := jh hlk; clear hlk
   have hlt' : (k : Int) < l.length := by omega
   obtain ⟨A2, c2, rfl, _⟩ := put_rep.1 hrep
   have c0 := hcs 0 _ rfl; have c1 := hcs 1 _ rfl; have c2 := hcs 2 _ rfl; simp only [PutR_size, Nat.add_zero] at c0 c1 c2
   dsimp only [aggV] at C
   clear hcs
   try clear hrep
   have HC := jh C; clear C
   go_wp2_with fail
   refine HC.out.mono ?_
   cases hp : p a with
   | true =>
     have HP := jh hp; clear hp
     rintro e w1 ⟨rfl, hb1⟩
     go_wp2
     go_ret
     exact ⟨ret_int (idxI_some HK.out HP.out HN.out).symm, hbl.tr hb1⟩
   | false =>
     have HP := jh hp; clear hp
     rintro e w1 ⟨rfl, hb1⟩
     go_wp2
     go_round
     case rel =>
      refine ⟨k + 1, by omega, by go_num, fun j x hj hx => ?_, hbl.tr hb1⟩
      by_cases hjk : j < k
      ·exact HN.out j x hjk hx
      ·have : j = k := by omega
       subst this
       have h1 := HK.out
       rw [hx] at h1
       injection h1 with h1
       rw [h1]; exact HP.out
     case measure => simp [intOf]; omega
  ·go_wp2
   go_ret
   refine ⟨ret_int (idxI_none fun j x hx => HN.out j x ?_ hx).symm, hbl⟩
   have := (List.getElem?_eq_some_iff.1 hx).1
   omega
theorem idxF_Stream (F : FuncId) (caps : List Value) (p : Stream → Bool) (hent : ∀ args w, (callFunc F args).run Tryz.prog w = .ok (.enter F args) w) (A : Option Addr) (c : Nat) (l : List Stream) (P : Nat → Prop) (w : World) (hr : StreamR.Row w P A l) (hl : l.length ≤ 9223372036854775807) (hF : Tells StreamR aggV F caps P p l w) :
 Calls Tryz.prog 266 #[.slice A l.length c, .func (.func F) #[] caps.toArray] w fun e w' => e = .returned (.int .i64 (idxI p l)) ∧ Below w.heap.size w w' := by
 have HF := jh hF; clear hF
 have HR := jh hr; clear hr
 go_enter Tryz.func266, Tryz.ntmps266
 go_wp2
 go_loopw [5, 8] (fun _ i wr => ∃ k : Nat, k ≤ l.length ∧ i = .int .i64 k ∧ (∀ (j : Nat) (b : Stream), j < k → l[j]? = some b → p b = false) ∧ Below w.heap.size w wr) (fun _ i _ => l.length - (intOf i).toNat)
 case atStart => exact ⟨0, Nat.zero_le _, rfl, fun j b hj => absurd hj (by omega), jb _ _⟩
 case round =>
  obtain ⟨k, hk, rfl, hno, hbl⟩ := hrel
  have HN := jh hno; clear hno
  by_cases hlt : k < l.length
  ·have hlk := jg hlt
   generalize l[k] = a at hlk
   obtain ⟨b, o, cs, rfl, hP, hbw, hrep, hcs⟩ := (HR.out.ext hbl).at_ hlk
   have C := HF.out a cs wr (List.mem_of_getElem? hlk) hrep hbl
   have HK := jh hlk; clear hlk
   have hlt' : (k : Int) < l.length := by omega
   obtain ⟨A2, c2, A3, c3, rfl, _⟩ := stream_rep.1 hrep
   have c0 := hcs 0 _ rfl; have c1 := hcs 1 _ rfl; have c2 := hcs 2 _ rfl; simp only [StreamR_size, Nat.add_zero] at c0 c1 c2
   dsimp only [aggV] at C
   clear hcs
   try clear hrep
   have HC := jh C; clear C
   go_wp2_with fail
   refine HC.out.mono ?_
   cases hp : p a with
   | true =>
     have HP := jh hp; clear hp
     rintro e w1 ⟨rfl, hb1⟩
     go_wp2
     go_ret
     exact ⟨ret_int (idxI_some HK.out HP.out HN.out).symm, hbl.tr hb1⟩
   | false =>
     have HP := jh hp; clear hp
     rintro e w1 ⟨rfl, hb1⟩
     go_wp2
     go_round
     case rel =>
      refine ⟨k + 1, by omega, by go_num, fun j x hj hx => ?_, hbl.tr hb1⟩
      by_cases hjk : j < k
      ·exact HN.out j x hjk hx
      ·have : j = k := by omega
       subst this
       have h1 := HK.out
       rw [hx] at h1
       injection h1 with h1
       rw [h1]; exact HP.out
     case measure => simp [intOf]; omega
  ·go_wp2
   go_ret
   refine ⟨ret_int (idxI_none fun j x hx => HN.out j x ?_ hx).symm, hbl⟩
   have := (List.getElem?_eq_some_iff.1 hx).1
   omega
theorem hasF_Put (F : FuncId) (caps : List Value) (p : Put → Bool) (hent : ∀ args w, (callFunc F args).run Tryz.prog w = .ok (.enter F args) w) (A : Option Addr) (c : Nat) (l : List Put) (P : Nat → Prop) (w : World) (hr : PutR.Row w P A l) (hl : l.length ≤ 9223372036854775807) (hF : Tells PutR aggV F caps P p l w) :
 Calls Tryz.prog 120 #[.slice A l.length c, .func (.func F) #[] caps.toArray] w fun e w' => e = .returned (.bool (l.any p)) ∧ Below w.heap.size w w' := by
 have C := idxF_Put F caps p hent A c l P w hr hl hF
 clear hF hr
 go_enter Tryz.func120, Tryz.ntmps120
 go_wp2_with fail
 refine C.mono ?_
 clear C
 rintro e w1 ⟨rfl, hb1⟩
 have hd := jh (idxI_any p l)
 go_wp2
 go_ret
 exact ⟨ret_bool hd.out, hb1⟩
theorem hasF_Stream (F : FuncId) (caps : List Value) (p : Stream → Bool) (hent : ∀ args w, (callFunc F args).run Tryz.prog w = .ok (.enter F args) w) (A : Option Addr) (c : Nat) (l : List Stream) (P : Nat → Prop) (w : World) (hr : StreamR.Row w P A l) (hl : l.length ≤ 9223372036854775807) (hF : Tells StreamR aggV F caps P p l w) :
 Calls Tryz.prog 187 #[.slice A l.length c, .func (.func F) #[] caps.toArray] w fun e w' => e = .returned (.bool (l.any p)) ∧ Below w.heap.size w w' := by
 have C := idxF_Stream F caps p hent A c l P w hr hl hF
 clear hF hr
 go_enter Tryz.func187, Tryz.ntmps187
 go_wp2_with fail
 refine C.mono ?_
 clear C
 rintro e w1 ⟨rfl, hb1⟩
 have hd := jh (idxI_any p l)
 go_wp2
 go_ret
 exact ⟨ret_bool hd.out, hb1⟩
end Go.Proofs.YtcmjgghkmdbphaaGreatDoor
namespace Go.Proofs.YtcmjgghkmdbphaaGreatDoor
open Go.RowKit
def assocOf {κ : Type} [DecidableEq κ] (k : κ) : List (κ × Value) → Option Value
 | [] => none
 | (x, v) :: l => if k = x then some v else assocOf k l
def assocAt {κ : Type} [DecidableEq κ] (k : κ) : List (κ × Value) → Nat → Option (Nat × Value)
 | [], _ => none
 | (x, v) :: l, i => if k = x then some (i, v) else assocAt k l (i + 1)
def assocPut {κ : Type} [DecidableEq κ] (k : κ) (v : Value) : List (κ × Value) → List (κ × Value)
 | [] => [(k, v)]
 | (x, u) :: l => if k = x then (x, v) :: l else (x, u) :: assocPut k v l
def assocDel {κ : Type} [DecidableEq κ] (k : κ) : List (κ × Value) → List (κ × Value)
 | [] => []
 | (x, u) :: l => if k = x then l else (x, u) :: assocDel k l
structure KeyOk {κ : Type} [DecidableEq κ] (P : Program) (kt : TypeId) (enc : κ → Value) : Prop where
 check : ∀ (b : Bool) (k : κ) (w : World), (Instr.checkKey b 10000 kt (enc k)).run P w = .ok () w
 find : ∀ (k : κ) (es : List MapEntry) (ps : List (κ × Value)) (w : World), es.map (fun e => (e.key, e.val)) = ps.map (fun p => (enc p.1, p.2)) → (Instr.findKey kt (enc k) es).run P w = .ok (assocAt k ps 0) w
 stays : ∀ (k : κ) (w : World), (Instr.keyThatStays (enc k) (enc k)).run P w = .ok (enc k) w
theorem beq_str (a b : ByteArray) : (a == b) = decide (a = b) := by
 obtain ⟨⟨x⟩⟩ := a
 obtain ⟨⟨y⟩⟩ := b
 show ((⟨x⟩ : Array UInt8) == ⟨y⟩) = _
 rw [Bool.eq_iff_iff]; simp
theorem map_erase {α β : Type} (f : α → β) (l : List α) (i : Nat) : (l.eraseIdx i).map f = (l.map f).eraseIdx i := by
 induction l generalizing i with
 | nil => rfl
 | cons x l ih => cases i with
   | zero => rfl
   | succ i => simp [ih]
theorem str_key {P : Program} {kt : TypeId} (h : P.underlying kt = some .string) : KeyOk P kt (fun s : ByteArray => Value.string s) where
 check b k w := by rw [Instr.checkKey]; simp [run_underlying h]
 find k es ps w he := by
  have key : ∀ (es : List MapEntry) (ps : List (ByteArray × Value)) (i : Nat), es.map (fun e => (e.key, e.val)) = ps.map (fun p => (Value.string p.1, p.2)) → Instr.findNow .string (.string k) es i = some (assocAt k ps i) := by
   intro es
   induction es with
   | nil => intro ps i h; cases ps with
     | nil => rfl
     | cons p ps => simp at h
   | cons e es ih => intro ps i h; cases ps with
     | nil => simp at h
     | cons p ps =>
       simp only [List.map_cons, List.cons.injEq, Prod.mk.injEq] at h
       obtain ⟨⟨h1, h2⟩, h3⟩ := h
       simp only [Instr.findNow, h1, Instr.sameNow, assocAt, beq_str]
       by_cases hk : k = p.1
       ·simp [hk, h2]
       ·simp [hk, ih ps (i + 1) h3]
  simp [Instr.findKey, run_underlying h, key es ps 0 he]
 stays k w := by simp [Instr.keyThatStays, Instr.sameBits, beq_str]
theorem assocAt_none {κ : Type} [DecidableEq κ] (k : κ) (l : List (κ × Value)) (i : Nat) : assocAt k l i = none ↔ assocOf k l = none := by
 induction l generalizing i with
 | nil => simp [assocAt, assocOf]
 | cons p l ih => simp only [assocAt, assocOf]; split <;> simp [ih]
theorem assocAt_some {κ : Type} [DecidableEq κ] {k : κ} {l : List (κ × Value)} {i j : Nat} {v : Value} (h : assocAt k l i = some (j, v)) : assocOf k l = some v ∧ i ≤ j ∧ l[j - i]? = some (k, v) := by
 induction l generalizing i with
 | nil => simp [assocAt] at h
 | cons p l ih =>
   simp only [assocAt] at h
   simp only [assocOf]
   split at h
   ·rename_i hk; rw [if_pos hk]; simp at h; obtain ⟨rfl, rfl⟩ := h; subst hk; simp
   ·rename_i hk
    rw [if_neg hk]
    obtain ⟨h1, h2, h3⟩ := ih h
    refine ⟨h1, by omega, ?_⟩
    rw [show j - i = (j - (i + 1)) + 1 from by omega, List.getElem?_cons_succ]; exact h3
theorem assocPut_at {κ : Type} [DecidableEq κ] {k : κ} {l : List (κ × Value)} {i j : Nat} {v u : Value} (h : assocAt k l i = some (j, u)) : assocPut k v l = l.set (j - i) (k, v) := by
 induction l generalizing i with
 | nil => simp [assocAt] at h
 | cons p l ih =>
   simp only [assocAt] at h
   simp only [assocPut]
   split at h
   ·rename_i hk; rw [if_pos hk]; simp at h; obtain ⟨rfl, rfl⟩ := h; subst hk; simp
   ·rename_i hk
    rw [if_neg hk]
    have h2 := (assocAt_some h).2.1
    rw [show j - i = (j - (i + 1)) + 1 from by omega, List.set_cons_succ, ih h]
theorem assocPut_new {κ : Type} [DecidableEq κ] {k : κ} {l : List (κ × Value)} {v : Value} (h : assocOf k l = none) : assocPut k v l = l ++ [(k, v)] := by
 induction l with
 | nil => rfl
 | cons p l ih =>
   simp only [assocOf] at h
   split at h
   ·cases h
   ·rename_i hk; simp [assocPut, hk, ih h]
theorem assocDel_at {κ : Type} [DecidableEq κ] {k : κ} {l : List (κ × Value)} {i j : Nat} {u : Value} (h : assocAt k l i = some (j, u)) : assocDel k l = l.eraseIdx (j - i) := by
 induction l generalizing i with
 | nil => simp [assocAt] at h
 | cons p l ih =>
   simp only [assocAt] at h
   simp only [assocDel]
   split at h
   ·rename_i hk; rw [if_pos hk]; simp at h; obtain ⟨rfl, rfl⟩ := h; simp
   ·rename_i hk
    rw [if_neg hk]
    have h2 := (assocAt_some h).2.1
    rw [show j - i = (j - (i + 1)) + 1 from by omega, List.eraseIdx_cons_succ, ih h]
theorem assocDel_none {κ : Type} [DecidableEq κ] {k : κ} {l : List (κ × Value)} (h : assocOf k l = none) : assocDel k l = l := by
 induction l with
 | nil => rfl
 | cons p l ih =>
   simp only [assocOf] at h
   split at h
   ·cases h
   ·rename_i hk; simp [assocDel, hk, ih h]
section
variable {κ : Type} {P : Program} {kt : TypeId} {enc : κ → Value} {w w' : World} {m : Nat} {ps : List (κ × Value)}
def MapAt (enc : κ → Value) (w : World) (m : Nat) (ps : List (κ × Value)) : Prop :=
 ∃ (es : Array MapEntry) (clk : Nat), w.heap[m]? = some (.map es clk) ∧ es.toList.map (fun e => (e.key, e.val)) = ps.map (fun p => (enc p.1, p.2)) ∧ (es.toList.map (·.born)).Pairwise (· < ·) ∧ ∀ e ∈ es.toList, e.born < clk
theorem MapAt.lt (h : MapAt enc w m ps) : m < w.heap.size := by
 obtain ⟨es, clk, h, _⟩ := h
 exact (Array.getElem?_eq_some_iff.1 h).1
theorem MapAt.block (h : MapAt enc w m ps) (hs : w'.heap[m]? = w.heap[m]?) : MapAt enc w' m ps := by
 obtain ⟨es, clk, h, r⟩ := h
 exact ⟨es, clk, hs.trans h, r⟩
theorem MapAt.ext (h : MapAt enc w m ps) (hb : Below w.heap.size w w') : MapAt enc w' m ps := h.block (hb.block m h.lt)
theorem MapAt.only {F : Nat → Prop} (h : MapAt enc w m ps) (hb : Only F w w') (hn : ¬ F m) : MapAt enc w' m ps := h.block (hb.block m h.lt hn)
theorem MapAt.same {F : Nat → Prop} (h : MapAt enc w m ps) (hb : Same F w w') (hn : F m) : MapAt enc w' m ps := h.block (hb m hn h.lt)
theorem MapAt.drewN (h : MapAt enc w m ps) (n : Nat) : MapAt enc (w.drewN n) m ps := h
theorem MapAt.alloc (h : MapAt enc w m ps) (o : Obj) : MapAt enc (w.alloc o) m ps := h.block (Below.heap_alloc w o m h.lt)
theorem MapAt.new (w : World) : MapAt enc (w.alloc (.map #[] 0)) w.heap.size [] := ⟨#[], 0, heap_alloc_new w _, rfl, by simp, by simp⟩
theorem MapAt.not_cells (h : MapAt enc w m ps) {t : TypeId} {cs : List Value} {g : Nat} (hb : Blk w g t cs) : m ≠ g := by
 rintro rfl
 obtain ⟨es, clk, h, _⟩ := h
 unfold Blk at hb
 rw [h] at hb
 cases hb
theorem MapAt.cells? (h : MapAt enc w m ps) (o : Nat) : w.cell? ⟨m, o, none⟩ = none := by
 obtain ⟨es, clk, h, _⟩ := h
 simp [World.cell?, h]
variable [DecidableEq κ]
theorem run_getMap {es : Array MapEntry} {clk : Nat} (h : w.heap[m]? = some (.map es clk)) : (getObj m).run P w = .ok (.map es clk) w := by
 simp [getObj, Sem.run, h]
theorem run_lookup_map (K : KeyOk P kt enc) {t e : TypeId} (ht : P.underlying t = some (.map kt e)) (h : MapAt enc w m ps) (k : κ) (z : Value) (hz : (zeroValue e).run P w = .ok z w) (c : Bool) :
 (Instr.lookup t (.map (some m)) (enc k) c).run P w = .ok (if c then .tuple #[(assocOf k ps).getD z, .bool (assocOf k ps).isSome] else (assocOf k ps).getD z) w := by
 obtain ⟨es, clk, hh, he, _⟩ := h
 have hf := K.find k es.toList ps w he
 simp only [Instr.lookup, Sem.run_bind, run_underlying ht, Result.andThen_ok, run_getMap hh, Sem.run_pure, K.check, hf]
 cases ha : assocAt k ps 0 with
 | none =>
   have := (assocAt_none k ps 0).1 ha
   simp [hz, this]
 | some q =>
   obtain ⟨j, v⟩ := q
   have := (assocAt_some ha).1
   simp [this]
theorem run_lookup_nil (K : KeyOk P kt enc) {t e : TypeId} (ht : P.underlying t = some (.map kt e)) (k : κ) (z : Value) (hz : (zeroValue e).run P w = .ok z w) (c : Bool) :
 (Instr.lookup t (.map none) (enc k) c).run P w = .ok (if c then .tuple #[z, .bool false] else z) w := by
 have hf := K.find k [] [] w rfl
 simp only [Instr.lookup, Sem.run_bind, run_underlying ht, Result.andThen_ok, Sem.run_pure, K.check, hf, assocAt]
 simp [hz]
def setMap (w : World) (m : Nat) (es : Array MapEntry) (clk : Nat) : World := { w with heap := w.heap.setIfInBounds m (.map es clk) }
theorem setMap_only (w : World) (m : Nat) (es : Array MapEntry) (clk : Nat) : Only (· = m) w (setMap w m es clk) :=
 ⟨rfl, rfl, rfl, by simp [setMap], fun g _ hn => by simp only [setMap, Array.getElem?_setIfInBounds]; rw [if_neg (fun h => hn h.symm)]⟩
theorem setMap_at {es : Array MapEntry} {clk : Nat} (hm : m < w.heap.size) : (setMap w m es clk).heap[m]? = some (.map es clk) := by
 simp [setMap, hm]
theorem run_setMap {es es' : Array MapEntry} {clk clk' : Nat} (h : w.heap[m]? = some (.map es clk)) : (setObj m (.map es' clk')).run P w = .ok () (setMap w m es' clk') := by
 simp [setObj, Sem.run, h, setMap]
theorem pair_len {κ : Type} {enc : κ → Value} {ps : List (κ × Value)} {es : Array MapEntry} (he : es.toList.map (fun e => (e.key, e.val)) = ps.map (fun p => (enc p.1, p.2))) : es.size = ps.length := by
 have := congrArg List.length he
 simpa using this
theorem map_put {es : Array MapEntry} {clk : Nat} (hh : w.heap[m]? = some (.map es clk)) (he : es.toList.map (fun e => (e.key, e.val)) = ps.map (fun p => (enc p.1, p.2))) (hp : (es.toList.map (·.born)).Pairwise (· < ·)) (hc : ∀ e ∈ es.toList, e.born < clk) (k : κ) (v : Value) :
 (∀ j u, assocAt k ps 0 = some (j, u) → MapAt enc (setMap w m (es.modify j fun e => { e with key := enc k, val := v }) clk) m (assocPut k v ps)) ∧
 (assocAt k ps 0 = none → MapAt enc (setMap w m (es.push { key := enc k, val := v, born := clk }) (clk + 1)) m (assocPut k v ps)) := by
 have hm := (Array.getElem?_eq_some_iff.1 hh).1
 refine ⟨fun j u ha => ⟨_, _, setMap_at hm, ?_, ?_, ?_⟩, fun ha => ⟨_, _, setMap_at hm, ?_, ?_, ?_⟩⟩
 ·rw [assocPut_at ha, Nat.sub_zero, List.map_set, ← he]
  apply List.ext_getElem?
  intro i
  simp only [List.getElem?_map, Array.getElem?_toList, Array.getElem?_modify, List.getElem?_set]
  by_cases hij : j = i
  ·subst hij
   have hj : j < es.size := by
    have := (List.getElem?_eq_some_iff.1 (assocAt_some ha).2.2).1
    rw [pair_len he]; simpa using this
   simp [hj]
  ·simp [hij]
 ·have : (es.modify j fun e => { e with key := enc k, val := v }).toList.map (·.born) = es.toList.map (·.born) := by
   apply List.ext_getElem?
   intro i
   simp only [List.getElem?_map, Array.getElem?_toList, Array.getElem?_modify]
   split
   ·cases es[i]? <;> rfl
   ·rfl
  rw [this]; exact hp
 ·intro e hmem
  obtain ⟨i, hi⟩ := List.getElem?_of_mem hmem
  simp only [Array.getElem?_toList, Array.getElem?_modify] at hi
  split at hi
  ·cases hq : es[i]? with
   | none => rw [hq] at hi; cases hi
   | some e0 =>
     rw [hq] at hi
     cases hi
     exact hc e0 (List.mem_of_getElem? (by simpa using hq))
  ·exact hc e (List.mem_of_getElem? (by simpa using hi))
 ·rw [assocPut_new ((assocAt_none k ps 0).1 ha)]
  simp [he]
 ·simp only [Array.toList_push, List.map_append, List.map_cons, List.map_nil]
  rw [List.pairwise_append]
  refine ⟨hp, by simp, ?_⟩
  intro a ha' b hb
  simp at hb
  subst hb
  obtain ⟨e, h1, rfl⟩ := List.mem_map.1 ha'
  exact hc e h1
 ·intro e hmem
  simp only [Array.toList_push, List.mem_append, List.mem_singleton] at hmem
  rcases hmem with h | h
  ·have := hc e h; omega
  ·subst h; simp
theorem run_mapUpdate_map (K : KeyOk P kt enc) {t e : TypeId} (ht : P.underlying t = some (.map kt e)) (h : MapAt enc w m ps) (k : κ) (v : Value) :
 ∃ w', (Instr.mapUpdate t (.map (some m)) (enc k) v).run P w = .ok () w' ∧ MapAt enc w' m (assocPut k v ps) ∧ Only (· = m) w w' := by
 obtain ⟨es, clk, hh, he, hp, hc⟩ := h
 have hf := K.find k es.toList ps w he
 obtain ⟨p1, p2⟩ := map_put hh he hp hc k v
 cases ha : assocAt k ps 0 with
 | none =>
   refine ⟨_, ?_, p2 ha, setMap_only _ _ _ _⟩
   simp only [Instr.mapUpdate, Sem.run_bind, run_underlying ht, Result.andThen_ok, run_getMap hh, K.check, hf, ha]
   exact run_setMap hh
 | some q =>
   obtain ⟨j, u⟩ := q
   refine ⟨_, ?_, p1 j u ha, setMap_only _ _ _ _⟩
   have hj := (assocAt_some ha).2.2
   have hkey : ((es[j]?).map (·.key)).getD (enc k) = enc k := by
    have h1 := congrArg (·[j]?) he
    simp only [List.getElem?_map, Array.getElem?_toList] at h1
    rw [Nat.sub_zero] at hj
    rw [hj] at h1
    cases hq : es[j]? with
    | none => rfl
    | some e0 =>
      rw [hq] at h1
      simp at h1
      simp [h1.1]
   simp only [Instr.mapUpdate, Sem.run_bind, run_underlying ht, Result.andThen_ok, run_getMap hh, K.check, hf, ha, hkey, K.stays]
   exact run_setMap hh
theorem run_delete_map (K : KeyOk P kt enc) {t ty e : TypeId} (ht : P.underlying t = some (.map kt e)) (h : MapAt enc w m ps) (k : κ) :
 ∃ w', (Builtin.delete_ #[t, kt] ty #[.map (some m), enc k]).run P w = .ok (.tuple #[]) w' ∧ MapAt enc w' m (assocDel k ps) ∧ Only (· = m) w w' := by
 obtain ⟨es, clk, hh, he, hp, hc⟩ := h
 have hm := (Array.getElem?_eq_some_iff.1 hh).1
 have hf := K.find k es.toList ps w he
 cases ha : assocAt k ps 0 with
 | none =>
   refine ⟨setMap w m es clk, ?_, ⟨es, clk, setMap_at hm, by rw [assocDel_none ((assocAt_none k ps 0).1 ha)]; exact he, hp, hc⟩, setMap_only _ _ _ _⟩
   simp [Builtin.delete_, run_underlying ht, run_getMap hh, K.check, hf, ha, run_setMap hh]
 | some q =>
   obtain ⟨j, u⟩ := q
   refine ⟨setMap w m (es.eraseIdxIfInBounds j) clk, ?_, ⟨_, clk, setMap_at hm, ?_, ?_, ?_⟩, setMap_only _ _ _ _⟩
   ·simp [Builtin.delete_, run_underlying ht, run_getMap hh, K.check, hf, ha, run_setMap hh]
   ·have hj : j < es.size := by
     have := (List.getElem?_eq_some_iff.1 (assocAt_some ha).2.2).1
     rw [pair_len he]; simpa using this
    rw [assocDel_at ha, Nat.sub_zero, map_erase, ← he]
    simp [Array.eraseIdxIfInBounds, hj, map_erase]
   ·have : (es.eraseIdxIfInBounds j).toList.map (·.born) = (es.toList.map (·.born)).eraseIdx j := by
     rw [← map_erase]
     unfold Array.eraseIdxIfInBounds
     split
     ·simp
     ·rename_i hj
      rw [List.eraseIdx_of_length_le (by simpa using hj)]
    rw [this]
    exact hp.sublist (List.eraseIdx_sublist _ _)
   ·intro e hmem
    unfold Array.eraseIdxIfInBounds at hmem
    split at hmem
    ·simp at hmem
     exact hc e (List.mem_of_mem_eraseIdx hmem)
    ·exact hc e hmem
theorem assocOf_put {κ : Type} [DecidableEq κ] (k x : κ) (v : Value) (l : List (κ × Value)) : assocOf x (assocPut k v l) = if x = k then some v else assocOf x l := by
 induction l with
 | nil => simp only [assocPut, assocOf]
 | cons p l ih =>
   simp only [assocPut]
   by_cases h : k = p.1
   ·rw [if_pos h]
    simp only [assocOf]
    by_cases hx : x = k
    ·rw [if_pos (hx.trans h), if_pos hx]
    ·rw [if_neg (fun e => hx (e.trans h.symm)), if_neg hx, if_neg (fun e => hx (e.trans h.symm))]
   ·rw [if_neg h]
    simp only [assocOf]
    by_cases hx : x = p.1
    ·rw [if_pos hx, if_pos hx, if_neg (fun e => h (e.symm.trans hx))]
    ·rw [if_neg hx, if_neg hx, ih]
theorem wpList_lookup_map {ops : Array Oper} {rest : List Oper} {o : Oper} {a : Act} {Q : Exit → Act → World → Prop} (K : KeyOk P kt enc) (hg : o.guard = none) (mo x : Operand) (t : TypeId) (c : Bool) (hop : o.op = Op.lookup t mo x c) {e : TypeId}
 (ht : P.underlying t = some (.map kt e)) (hm : a.eval mo = .map (some m)) (h : MapAt enc w m ps) (k : κ) (hx : a.eval x = enc k) (z : Value) (hz : (zeroValue e).run P w = .ok z w)
 (hK : wpList P ops Q rest (a.put o.dst (if c then .tuple #[(assocOf k ps).getD z, .bool (assocOf k ps).isSome] else (assocOf k ps).getD z)) w) : wpList P ops Q (o :: rest) a w := by
 refine wpList_plain hg fun K' hK' => ?_
 have hr := run_lookup_map K ht h k z hz c
 unfold Oper.wp
 simp only [execOp, hop, hm, hx, Sem.run_bind, hr, Result.andThen_ok, Sem.run_pure, Oper.upon]
 exact hK' _ _ hK
theorem wpList_lookup_nil {ops : Array Oper} {rest : List Oper} {o : Oper} {a : Act} {Q : Exit → Act → World → Prop} (K : KeyOk P kt enc) (hg : o.guard = none) (mo x : Operand) (t : TypeId) (c : Bool) (hop : o.op = Op.lookup t mo x c) {e : TypeId}
 (ht : P.underlying t = some (.map kt e)) (hm : a.eval mo = .map none) (k : κ) (hx : a.eval x = enc k) (z : Value) (hz : (zeroValue e).run P w = .ok z w)
 (hK : wpList P ops Q rest (a.put o.dst (if c then .tuple #[z, .bool false] else z)) w) : wpList P ops Q (o :: rest) a w := by
 refine wpList_plain hg fun K' hK' => ?_
 have hr := run_lookup_nil K ht k z hz c
 unfold Oper.wp
 simp only [execOp, hop, hm, hx, Sem.run_bind, hr, Result.andThen_ok, Sem.run_pure, Oper.upon]
 exact hK' _ _ hK
theorem wpList_mapUpdate_map {ops : Array Oper} {rest : List Oper} {o : Oper} {a : Act} {Q : Exit → Act → World → Prop} (K : KeyOk P kt enc) (hg : o.guard = none) (hd : o.dst = none) (mo x v : Operand) (t : TypeId) (hop : o.op = Op.mapUpdate t mo x v) {e : TypeId}
 (ht : P.underlying t = some (.map kt e)) (hm : a.eval mo = .map (some m)) (h : MapAt enc w m ps) (k : κ) (hx : a.eval x = enc k) (u : Value) (hv : a.eval v = u)
 (hK : ∀ w', MapAt enc w' m (assocPut k u ps) → Only (· = m) w w' → wpList P ops Q rest a w') : wpList P ops Q (o :: rest) a w := by
 refine wpList_plain hg fun K' hK' => ?_
 obtain ⟨w', hr, h1, h2⟩ := run_mapUpdate_map K ht h k u
 unfold Oper.wp
 simp only [execOp, hop, hm, hx, hv, Sem.run_bind, hr, Result.andThen_ok, Sem.run_pure, Oper.upon]
 rw [hd]
 exact hK' _ _ (hK w' h1 h2)
end
end Go.Proofs.YtcmjgghkmdbphaaGreatDoor
namespace Go.Proofs.YtcmjgghkmdbphaaGreatDoor
open Go.RowKit
theorem run_clear_blk {P : Program} {w : World} {g : Nat} {e t ty : TypeId} {cur : List Value} {z : Value} (hB : Blk w g e cur) (ht : P.underlying t = some (.slice e)) (hv : ∀ w, (zeroValue e).run P w = .ok z w) (hz : z.cells = #[z]) (h1 : z.oneCell' = true) (i m c : Nat) (hm : 0 < m) (hl : i + m ≤ cur.length) :
 ∃ w', (Builtin.clear_ #[t] ty #[.slice (some ⟨g, i, none⟩) m c]).run P w = .ok (.tuple #[]) w' ∧ Blk w' g e (cur.take i ++ List.replicate m z ++ cur.drop (i + m)) ∧ Only (· = g) w w' := by
 have hzc : (Builtin.zeroCells z.cells m).toList = List.replicate m z := by
  rw [hz]
  simp [Builtin.zeroCells]
  apply List.ext_getElem
  ·simp
  ·intro i h1 h2
   simp [Nat.mod_one]
 have hst := run_storeCells_at P g i e (List.replicate m z) 0 cur.toArray w hB (by simpa using hl) (fun v hv => by rw [List.eq_of_mem_replicate hv]; exact h1)
 simp only [Nat.add_zero, List.length_replicate] at hst
 obtain ⟨k, rfl⟩ : ∃ k, m = k + 1 := ⟨m - 1, by omega⟩
 refine ⟨_, by simp [Builtin.clear_, run_underlying ht, hv, hzc, hst]; rfl, ?_, ?_⟩
 ·have := setRow_heap w g cur.toArray (cur.take i ++ List.replicate (k + 1) z ++ cur.drop (i + (k + 1))).toArray e (0, 0) hB
  unfold Blk
  simpa using this
 ·exact ⟨rfl, rfl, rfl, by simp, fun k hk hn => setRow_other w g k _ hn⟩
theorem own_of_blk {α : Type} {R : Rep α} {w : World} {g e base cap : Nat} {S : Nat → Prop} {cur xs : List Value} {l : List α} (hB : Blk w g e cur) (hc : cur.length = cap * R.size) (hn : l.length ≤ cap) (hm : cap ≤ 9223372036854775807) (hb : base ≤ g)
 (hx : cur.take (l.length * R.size) = xs) (hf : R.flat w (fun q => S q ∧ q ≠ g) xs l) : R.Own w base e S (.slice (some ⟨g, 0, none⟩) l.length cap) l :=
 ⟨xs, ⟨hf.lens, .inr ⟨g, cap, cur.toArray, rfl, hb, hB, hn, by unfold maxLen; omega, by simpa using hc, by simpa using hx⟩⟩, hf.mono fun q hq _ => ⟨hq.1, fun h => hq.2 (by simpa [Value.ownBlock] using h)⟩⟩
theorem str_flat {w : World} {P : Nat → Prop} {l : List Str} (h : ∀ s ∈ l, sfit s) : StrR.flat w P (l.map .string) l := by
 refine ⟨l.map fun s => [.string s], by clear h; induction l with
  | nil => rfl
  | cons x l ih => simp [← ih], by simp, fun q cs s hq hs => ?_⟩
 rw [List.getElem?_map, hs] at hq
 simp at hq
 exact ⟨hq.symm, h s (List.mem_of_getElem? hs)⟩
def TellsO (F : FuncId) (caps : List Value) (G : Nat → Prop) (p : Str → Bool) (l : List Str) (w : World) : Prop :=
 ∀ (s : Str) (W : World), s ∈ l → Only G w W → Calls Tryz.prog F (.string s :: caps).toArray W fun e W' => e = .returned (.bool (p s)) ∧ Below W.heap.size W W'
theorem filter_snoc {α : Type} (p : α → Bool) (l : List α) (k : Nat) (h : k < l.length) : (l.take (k + 1)).filter p = (l.take k).filter p ++ (if p l[k] then [l[k]] else []) := by
 rw [take_snoc _ _ h, List.filter_append]
 cases hp : p l[k] <;> simp [hp]
theorem delF_any (F : FuncId) (caps : List Value) (p : Str → Bool) (hent : ∀ args w, (callFunc F args).run Tryz.prog w = .ok (.enter F args) w) (v : Value) (base : Nat) (S : Nat → Prop) (l : List Str) (w : World) (ho : StrR.Own w base 9 S v l)
 (hF : TellsO F caps (fun g => v.ownBlock = some g) p l w) :
 Calls Tryz.prog 277 #[v, .func (.func F) #[] caps.toArray] w fun e w' => GotOwn StrR base 9 S (l.filter fun s => !p s) e w' ∧ Only (fun g => v.ownBlock = some g) w w' := by
 obtain ⟨A, c, rfl, hc1, hc2⟩ := ho.form
 have hrow : StrR.Row w (fun _ => True) A l := (ho.mono (S' := fun _ => True) fun _ _ _ => trivial).row fun _ _ => trivial
 have CI := idxF_string F caps p hent A c l _ w hrow (by omega) (fun s cs W hs hr hb => by
  obtain ⟨rfl, _⟩ := hr
  exact hF s W hs (jo hb))
 have HF := jh hF; clear hF
 have HO := jh ho; clear ho hrow
 cases hi : l.findIdx? p with
 | none =>
   have hid : idxI p l = -1 := by unfold idxI; rw [hi]
   have hfl : (l.filter fun s => !p s) = l := by
    rw [List.filter_eq_self]
    intro s hs
    have := List.findIdx?_eq_none_iff.1 hi s hs
    simp [this]
   have HFL := jh hfl; clear hfl
   rw [hid] at CI
   clear hid hi
   go_enter Tryz.func277, Tryz.ntmps277
   go_wp2_with fail
   refine CI.mono ?_
   clear CI
   rintro e w1 ⟨rfl, hb1⟩
   go_wp2
   go_ret
   exact ⟨⟨_, rfl, by rw [HFL.out]; exact HO.out.ext hb1⟩, jo hb1⟩
 | some i =>
   obtain ⟨hil, hpi, hlow⟩ := List.findIdx?_eq_some_iff_getElem.1 hi
   have hid : idxI p l = i := by unfold idxI; rw [hi]
   obtain ⟨xs, hx1, hx2⟩ := HO.out
   obtain ⟨g, cap, hv, hbg, hglt⟩ := hx1.form (by omega)
   obtain ⟨rfl, rfl⟩ : A = some ⟨g, 0, none⟩ ∧ c = cap := by injection hv with h1 _ h3; exact ⟨h1, h3⟩
   clear hv
   obtain ⟨cur0, hB0, hcl0, hcx⟩ : ∃ cur0, Blk w g 9 cur0 ∧ cur0.length = c ∧ cur0.take l.length = xs := by
    rcases hx1.2 with ⟨h, h0⟩ | ⟨g', cap', cur, hv, _, hh, _, _, hsz, htk⟩
    ·omega
    ·obtain ⟨rfl, rfl⟩ : g = g' ∧ c = cap' := by injection hv with h1 _ h3; exact ⟨by simpa using h1, h3⟩
     exact ⟨cur.toList, by unfold Blk; simpa using hh, by simpa [StrR_size] using hsz, by simpa [StrR_size] using htk⟩
   have hat : ∀ (j : Nat) (s : Str), l[j]? = some s → cur0[j]? = some (.string s) := by
    intro j s hj
    have hjl := (List.getElem?_eq_some_iff.1 hj).1
    obtain ⟨css, hxs, hcn, hcf⟩ := hx2
    have hlen : ∀ cs ∈ css, cs.length = 1 := by
     intro cs hcs
     obtain ⟨q, hq, rfl⟩ := List.getElem_of_mem hcs
     exact StrR.len (hcf q _ _ (jg hq) (jg (by omega)))
    have h1 := flatten_at hlen (jg (show j < css.length by omega)) (show 0 < 1 by decide)
    obtain ⟨h2, _⟩ := hcf j _ _ (jg (show j < css.length by omega)) hj
    rw [h2, ← hxs, ← hcx, Nat.mul_one, Nat.add_zero, List.getElem?_take, if_pos hjl] at h1
    simpa using h1
   have HAT := jh hat
   have hfit : ∀ s ∈ l, sfit s := by
    intro s hs
    obtain ⟨j, hj⟩ := List.getElem?_of_mem hs
    obtain ⟨css, hxs, hcn, hcf⟩ := hx2
    have hjl := (List.getElem?_eq_some_iff.1 hj).1
    exact (hcf j _ _ (jg (show j < css.length by omega)) hj).2
   have HFIT := jh hfit
   rw [hid] at CI
   have hstart : (l.take (i + 1)).filter (fun s => !p s) = l.take i := by
    rw [filter_snoc _ _ _ hil]
    simp only [hpi, Bool.not_true, Bool.false_eq_true, if_false, List.append_nil]
    rw [List.filter_eq_self]
    intro s hs
    obtain ⟨j, hj, rfl⟩ := List.getElem_of_mem hs
    rw [List.getElem_take]
    have := hlow j (by simp at hj; omega)
    simpa using this
   have HST := jh hstart
   have HL := jh hlow
   clear hat hfit hx1 hx2 hcx hid hi hlow hpi hstart
   go_enter Tryz.func277, Tryz.ntmps277
   go_wp2_with fail
   refine CI.mono ?_
   clear CI
   rintro e w1 ⟨rfl, hb1⟩
   have e1 : ((i : Int) == -1) = false := by rw [beq_eq_false_iff_ne]; omega
   go_wp2_with fail
   go_loopw [5, 6, 7] (fun x y _ wr => ∃ (k j : Nat) (cur : List Value), x = .int .i64 k ∧ y = .int .i64 j ∧ k < j ∧ j ≤ l.length ∧ Blk wr g 9 cur ∧ cur.length = c ∧ cur.take k = ((l.take j).filter fun s => !p s).map .string ∧
    ((l.take j).filter fun s => !p s).length = k ∧ (∀ (q : Nat) (s : Str), j ≤ q → l[q]? = some s → cur[q]? = some (.string s)) ∧ Only (· = g) w wr) (fun _ y _ _ => l.length - (intOf y).toNat)
   case atStart =>
    refine ⟨i, i + 1, cur0, rfl, by go_num, by omega, by omega, hB0.ext hb1, hcl0, ?_, ?_, fun q s _ hq => HAT.out q s hq, jo hb1⟩
    ·rw [HST.out]
     apply List.ext_getElem?
     intro q
     rw [List.getElem?_take, List.getElem?_map, List.getElem?_take]
     by_cases hq : q < i
     ·rw [if_pos hq, if_pos hq, HAT.out q _ (jg (by omega)), jg (by omega)]; rfl
     ·rw [if_neg hq, if_neg hq]; rfl
    ·rw [HST.out]; simp; omega
   case round =>
    obtain ⟨k, j, cur, rfl, rfl, hkj, hj, hB, hcl, htk, hfl, hrest, hon⟩ := hrel
    have hgl := hB.lt
    by_cases hlt : j < l.length
    ·have hlj := jg hlt
     have hsj := hrest j _ (Nat.le_refl _) hlj
     have hmem := List.getElem_mem hlt
     have hfs := filter_snoc (fun s => !p s) l j hlt
     generalize l[j] = s at hlj hsj hmem hfs
     have cj := hB.cell j
     rw [hsj] at cj
     have hfz := hB.frozen k
     have hkc : k < cur.length := by omega
     have ck := hB.cell k
     rw [jg hkc] at ck
     have hlt' : (j : Int) < l.length := by omega
     have hkl' : (k : Int) < l.length := by omega
     have C := HF.out s wr hmem (hon.mono fun q hq => by simp [Value.ownBlock, hq])
     have HX := jh (ja htk (ja hfl (ja hrest (ja hfs hlj)))); clear htk hfl hrest hfs hlj hsj
     go_wp2_with fail
     refine C.mono ?_
     clear C
     cases hp : p s with
     | true =>
       have HP := jh hp; clear hp
       rintro e w2 ⟨rfl, hb2⟩
       go_wp2
       go_round
       case rel =>
        obtain ⟨htk, hfl, hrest, hfs, hlj⟩ := HX.out
        rw [HP.out] at hfs
        simp at hfs
        refine ⟨k, j + 1, cur, rfl, by go_num, by omega, by omega, hB.ext hb2, hcl, ?_, ?_, fun q s hq hs => hrest q s (by omega) hs, hon.tr (jo hb2)⟩
        ·rw [hfs]; exact htk
        ·rw [hfs]; exact hfl
       case measure => simp [intOf]; omega
     | false =>
       have HP := jh hp; clear hp
       rintro e w2 ⟨rfl, hb2⟩
       have hB2 := hB.ext hb2
       have hf2 := hB2.frozen k
       have c2 := hB2.cell k
       rw [jg hkc] at c2
       clear hfz cj ck
       go_wp2
       go_round
       case rel =>
        obtain ⟨htk, hfl, hrest, hfs, hlj⟩ := HX.out
        rw [HP.out] at hfs
        simp at hfs
        refine ⟨k + 1, j + 1, cur.set k (.string s), by go_num, by go_num, by omega, by omega, hB2.set_ k _, by simpa using hcl, ?_, ?_, ?_, (hon.tr (jo hb2)).tr (Only.set_ (F := fun x => x = g) (p := ⟨g, k, none⟩) rfl _)⟩
        ·rw [hfs, List.map_append, ← htk]
         rw [List.take_set, List.take_succ_eq_append_getElem hkc]
         rw [List.set_append_right _ _ (by simp; omega)]
         simp [Nat.min_eq_left (Nat.le_of_lt hkc)]
        ·rw [hfs]; simp; exact hfl
        ·intro q s' hq hs
         rw [List.getElem?_set_ne (by omega)]
         exact hrest q s' (by omega) hs
       case measure => simp [intOf]; omega
    ·have hjl : j = l.length := by omega
     subst hjl
     have hlt' : ¬ (l.length : Int) < l.length := by omega
     have hkc : ¬ c = k := by omega
     have hk0 : (k : Int) ≤ l.length := by omega
     have hk1 : (l.length : Int) ≤ c := by omega
     obtain ⟨w2, hcr, hB2, ho2⟩ := run_clear_blk (P := Tryz.prog) (t := 67) (ty := 0) (z := .string ⟨#[]⟩) hB Tryz.underlying67 (fun _ => by kernel_rfl) rfl rfl k (l.length - k) (c - k) (by omega) (by omega)
     go_wp2_with fail
     go_ret
     rw [List.take_length] at htk hfl
     refine ⟨⟨_, rfl, ?_⟩, (hon.tr ho2).mono fun q hq => by simp [Value.ownBlock, hq]⟩
     have key := own_of_blk (R := StrR) (base := base) (S := S) (cap := c) (xs := (l.filter fun s => !p s).map .string) (l := l.filter fun s => !p s) hB2 (by simp [StrR_size]; omega) (by rw [hfl]; omega) hc2 hbg (by
      rw [hfl, StrR_size, Nat.mul_one, List.append_assoc, List.take_append_of_le_length (by simp; omega), ← htk]
      exact List.take_of_length_le (by simp; omega)) (str_flat fun s hs => HFIT.out s (List.mem_filter.1 hs).1)
     rw [hfl] at key
     exact key
theorem equal_any (A A' : Option Addr) (c c' : Nat) (l m : List Str) (P Q : Nat → Prop) (w : World) (hr : StrR.Row w P A l) (hq : StrR.Row w Q A' m) (hl : l.length ≤ 9223372036854775807) (_hm : m.length ≤ 9223372036854775807) :
 Calls Tryz.prog 273 #[.slice A l.length c, .slice A' m.length c'] w fun e w' => e = .returned (.bool (decide (l = m))) ∧ Below w.heap.size w w' := by
 by_cases hlen : l.length = m.length
 ·have e0 : ((l.length : Int) != m.length) = false := by simp [hlen]
  have HLEN := jh hlen; clear hlen
  have HR := jh hr; clear hr
  have HQ := jh hq; clear hq
  go_enter Tryz.func273, Tryz.ntmps273
  go_wp2
  go_loopw [5, 13] (fun _ i wr => ∃ k : Nat, k ≤ l.length ∧ i = .int .i64 k ∧ (∀ j, j < k → l[j]? = m[j]?) ∧ Below w.heap.size w wr) (fun _ i _ => l.length - (intOf i).toNat)
  case atStart => exact ⟨0, Nat.zero_le _, rfl, fun j hj => absurd hj (by omega), jb _ _⟩
  case round =>
   obtain ⟨k, hk, rfl, hsame, hbl⟩ := hrel
   have HS := jh hsame; clear hsame
   by_cases hlt : k < l.length
   ·have hlk := jg hlt
    have hmk := jg (show k < m.length by have := HLEN.out; omega)
    generalize l[k] = a at hlk
    generalize m[k]'(by have := HLEN.out; omega) = a' at hmk
    obtain ⟨b, o, cs, rfl, hP, hbw, ⟨rfl, _⟩, hcs⟩ := (HR.out.ext hbl).at_ hlk
    obtain ⟨b', o', cs', rfl, hP', hbw', ⟨rfl, _⟩, hcs'⟩ := (HQ.out.ext hbl).at_ hmk
    have c0 := hcs 0 _ rfl
    have c1 := hcs' 0 _ rfl
    simp only [StrR_size, Nat.mul_one, Nat.add_zero] at c0 c1
    have hlt' : (k : Int) < l.length := by omega
    have hlt2 : (k : Int) < m.length := by have := HLEN.out; omega
    have HK := jh (ja hlk hmk)
    clear hlk hmk hcs hcs'
    by_cases hab : a = a'
    ·subst hab
     go_wp2_with fail
     go_quiet (fail)
     go_wp2_with fail
     go_round
     case rel =>
      refine ⟨k + 1, by omega, by go_num, fun j hj => ?_, hbl.drewN _⟩
      by_cases hjk : j < k
      ·exact HS.out j hjk
      ·have : j = k := by omega
       subst this
       rw [HK.out.1, HK.out.2]
     case measure => simp [intOf]; omega
    ·have hne : (a.toList == a'.toList) = false := by
      rw [beq_eq_false_iff_ne]; intro h; exact hab (by rw [ByteArray.toList_eq, ByteArray.toList_eq] at h; obtain ⟨⟨x⟩⟩ := a; obtain ⟨⟨y⟩⟩ := a'; simp at h; simp [h])
     have HAB := jh hab; clear hab
     go_wp2_with fail
     go_quiet (fail)
     go_wp2_with fail
     go_ret
     refine ⟨ret_bool ?_, hbl.drewN _⟩
     symm
     rw [decide_eq_false_iff_not]
     intro h
     have := HK.out.1
     rw [h, HK.out.2] at this
     injection this with this
     exact HAB.out this.symm
   ·go_wp2
    go_ret
    refine ⟨ret_bool ?_, hbl⟩
    symm
    rw [decide_eq_true_iff]
    apply List.ext_getElem?
    intro j
    by_cases hj : j < k
    ·exact HS.out j hj
    ·have := HLEN.out
     rw [List.getElem?_eq_none (by omega), List.getElem?_eq_none (by omega)]
 ·have e0 : ((l.length : Int) != m.length) = true := by rw [bne_iff_ne]; omega
  have HLEN := jh hlen; clear hlen
  go_enter Tryz.func273, Tryz.ntmps273
  go_wp2
  go_ret
  exact ⟨ret_bool (by symm; rw [decide_eq_false_iff_not]; intro h; exact HLEN.out (by rw [h])), jb _ _⟩
theorem unvalid_any (s : Str) (w : World) (hs : sfit s) (hT : Tabs w) : Calls Tryz.prog 304 #[.string s] w fun e w' => e = .returned (.bool (!validB s)) ∧ Below w.heap.size w w' := by
 have C := valid_any s w hs hT
 go_enter Tryz.func304, Tryz.ntmps304
 go_wp2_with fail
 refine C.mono ?_
 clear C
 rintro e w' ⟨rfl, hb⟩
 go_wp2
 go_ret
 exact ⟨rfl, hb⟩
theorem Tabs.only {F : Nat → Prop} {w w' : World} (h : Tabs w) (hb : Only F w w') (h0 : ¬ F 0) (h1 : ¬ F 1) : Tabs w' := by
 have keep : ∀ {a : Addr} {v : Value}, (a.block = 0 ∨ a.block = 1) → w.cell? a = some v → w'.cell? a = some v := fun {a v} ha hc =>
  (World.cell?_of_block (w := w) (hb.block a.block (lt_of_cell hc) (by rcases ha with e | e <;> rw [e] <;> assumption))).trans hc
 exact ⟨fun c hc => keep (.inl rfl) (h.1 c hc), fun i hi => ⟨keep (.inr rfl) (h.2 i hi).1, keep (.inr rfl) (h.2 i hi).2⟩⟩
theorem validL_any (A : Option Addr) (c : Nat) (l : List Str) (P : Nat → Prop) (w : World) (hr : StrR.Row w P A l) (hl : l.length ≤ 100000000) (hs : ∀ s ∈ l, sfit s) (hT : Tabs w) (h2 : 2 ≤ w.heap.size) :
 Calls Tryz.prog 274 #[.slice A l.length c] w fun e w' => GotOwn StrR w.heap.size 9 (fun g => w.heap.size ≤ g ∨ P g) (l.filter validB) e w' ∧ Below w.heap.size w w' := by
 have C := clone_string A c l P w hr hl
 have HS := jh hs; clear hs
 have HL := jh hl; clear hl
 have hf : (l.filter fun s => !!validB s) = l.filter validB := by simp
 have HF := jh hf; clear hf
 go_enter Tryz.func274, Tryz.ntmps274
 go_wp2_with fail
 refine C.mono ?_
 clear C
 rintro e w1 ⟨⟨v1, rfl, ho1⟩, hb1⟩
 have hlt := ho1.lt
 have D := delF_any 304 [] (fun s => !validB s) (Go.Proofs.enters_of Tryz.func304 (by kernel_rfl) rfl) v1 _ _ l w1 ho1 (fun s W hs ho => unvalid_any s W (HS.out s hs) ((hT.below hb1).only ho (fun h => by have := (hlt 0 h).1; omega) (fun h => by have := (hlt 1 h).1; omega)))
 rw [HF.out] at D
 go_wp2_with fail
 refine D.mono ?_
 clear D
 rintro e w2 ⟨⟨v2, rfl, ho2⟩, hb2⟩
 go_wp2
 go_ret
 exact ⟨⟨_, rfl, ho2⟩, hb1.trans (hb2.low (fun g hg => (hlt g hg).1) hb1.size)⟩
end Go.Proofs.YtcmjgghkmdbphaaGreatDoor
