/- HandGreat: what is computed. penstockalike.Letters: a text of so many letters. HandGreat: the law's walk. -/
import Derived.Test.YtcmjgghkmdbphaaGreatDoorG23
import Derived.Test.YtcmjgghkmdbphaaGreatDoorG17
import Derived.Test.YtcmjgghkmdbphaaGreatDoorG19
import Derived.Test.YtcmjgghkmdbphaaGreatDoorG20
import Derived.Test.YtcmjgghkmdbphaaGreatDoorG04
import Derived.Test.YtcmjgghkmdbphaaGreatDoorG16
import Derived.Test.YtcmjgghkmdbphaaGreatDoorG21
import Derived.Test.YtcmjgghkmdbphaaGreatDoorG18
import Derived.Test.YtcmjgghkmdbphaaGreatDoorG22
import Derived.Deep.OwnRows
import Derived.Lib.ValidLaws
set_option maxRecDepth 20000
set_option maxHeartbeats 25600000
namespace Go.Proofs.YtcmjgghkmdbphaaGreatDoor
open Go.RowKit
def nmA : Str := ⟨#[97]⟩
def evG (i : Nat) (d : Str) : Event := ⟨nmA, (i : Int) + 1, d, ⟨(i : Int) + 1, 0, 1⟩, 0⟩
structure GEv (l : List Event) (z : Nat) : Prop where
 len : l.length ≤ 40
 size : z ≤ 1000
 each : ∀ j e, l[j]? = some e → ∃ d, e = evG j d ∧ validB d = true ∧ d.size = z
theorem GEv.nil {z : Nat} (h : z ≤ 1000) : GEv [] z := ⟨Nat.zero_le _, h, fun j e h => by simp at h⟩
theorem GEv.more {l : List Event} {z : Nat} {d : Str} (h : GEv l z) (hl : l.length < 40) (hv : validB d = true) (hd : d.size = z) : GEv (l ++ [evG l.length d]) z := by
 refine ⟨by simp; omega, h.size, fun j e hj => ?_⟩
 by_cases hlt : j < l.length
 ·rw [List.getElem?_append_left hlt] at hj; exact h.each j e hj
 ·rw [List.getElem?_append_right (by omega)] at hj
  by_cases he : j = l.length
  ·subst he; simp at hj; exact ⟨d, hj.symm, hv, hd⟩
  ·rw [List.getElem?_eq_none (by simp; omega)] at hj; cases hj
theorem nmA_name : nameB nmA = true := by decide +kernel
theorem evG_ok {i : Nat} {d : Str} (hi : i ≤ 100) (hv : validB d = true) (hd : d.size ≤ 1000) : eventB (evG i d) = true := by
 have hs : soundB ⟨(i : Int) + 1, 0, 1⟩ = true := by simp only [soundB, withinB, Bool.and_eq_true, decide_eq_true_eq]; omega
 have h1 : decide (d.size ≤ 1000) = true := decide_eq_true hd
 unfold eventB evG
 rw [nmA_name, hs, hv, h1]
 simp only [Bool.true_and, Bool.and_eq_true, decide_eq_true_eq]
 omega
theorem GEv.ok {l : List Event} {z : Nat} (h : GEv l z) : l.all (okE nmA) = true := by
 rw [List.all_eq_true]
 intro e he
 obtain ⟨j, hj, rfl⟩ := List.mem_iff_getElem.1 he
 obtain ⟨d, hd, hv, hz⟩ := h.each j _ (jg hj)
 rw [hd]
 unfold okE
 rw [evG_ok (by have := h.len; omega) hv (by have := h.size; omega)]
 simp [evG]
theorem GEv.goes {l : List Event} {z : Nat} (h : GEv l z) : goesB l 0 = true := by
 rw [goes_iff]
 intro j e hj
 obtain ⟨d, rfl, _⟩ := h.each j e hj
 simp [evG]; omega
def tabG (l : List Event) : Tab := if l = [] then [] else [(nmA, ⟨l, []⟩)]
def strG (l : List Event) : List Stream := if l = [] then [] else [⟨nmA, l, []⟩]
theorem GEv.whole {l : List Event} {z : Nat} (h : GEv l z) (h0 : l ≠ []) : wholeB ⟨nmA, l, []⟩ = true := by
 unfold wholeB streamB
 rw [nmA_name, h.ok, h.goes]
 simp [h0, keysB]
theorem someG (l : List Event) {r : Range} (hr : inR r nmA = true) : someT (tabG l) r = if l = [] then [] else [nmA] := by
 unfold someT tabG
 by_cases h : l = []
 ·simp [h, sortS]
 ·simp only [h, if_false, List.map_cons, List.map_nil]
  rw [sortS_one]; simp [hr]
theorem takeG (l : List Event) {r : Range} (hr : inR r nmA = true) : takeT (tabG l) r = strG l := by
 unfold takeT
 rw [someG l hr]
 unfold strG tabG
 by_cases h : l = []
 ·simp [h]
 ·simp [h, getA, streamOf, sortS]
theorem okPutG {l : List Event} {z : Nat} (h : GEv l z) : okPut [] (strG l) = true := by
 unfold strG
 by_cases h0 : l = []
 ·simp [h0, okPut]
 ·simp [h0, okPut, metS, h.whole h0]
theorem putG {l : List Event} {z : Nat} (h : GEv l z) : putT (strG l) [] = (tabG l, 0) := by
 unfold putT
 rw [okPutG h]
 unfold strG tabG
 by_cases h0 : l = []
 ·simp [h0, putAll]
 ·simp [h0, putAll, keysOf, putA]
theorem freshG {l : List Event} {z : Nat} (h : GEv l z) : freshT (tabG l) = tabG l := by
 unfold freshT
 rw [takeG l (inR_all nmA), putG h]
def rgG : List Range := [⟨0, 4294967295, 1, 1⟩]
def gtS (l : List Event) : St := ⟨1, 1, 0, 0, rgG, tabG l, [], [], [], [], l⟩
def cmG (i : Nat) (d : Str) : Rec := ⟨3, 0, 0, false, ⟨(i : Int) + 1, 0, 1⟩, ⟨0, 0, 0⟩, [], ⟨⟨#[]⟩, [⟨nmA, i, [d]⟩]⟩, zeroRange, []⟩
theorem key_nil : keyB ⟨#[]⟩ = true := by decide +kernel
theorem cmG_check {i : Nat} {d : Str} (hi : i ≤ 100) (hv : validB d = true) (hd : d.size ≤ 1000) : checkR (cmG i d) = 0 := by
 have hs : soundB ⟨(i : Int) + 1, 0, 1⟩ = true := by simp only [soundB, withinB, Bool.and_eq_true, decide_eq_true_eq]; omega
 have hb : checkB (cmG i d).batch = 0 := by
  have hm : mayB (cmG i d).batch = true := by
   have hp : putB [] ⟨nmA, i, [d]⟩ = true := by
    rw [putB_iff]
    refine ⟨nmA_name, rfl, ?_, ?_, by simp, ?_⟩
    ·show (-1 : Int) ≤ (i : Int); omega
    ·show (i : Int) ≤ 1099511627776; omega
    ·simp [hv]
   unfold mayB cmG
   simp [putsB, hp, key_nil]
  unfold checkB
  rw [if_pos hm]
  have : putsBig (cmG i d).batch.puts (decide ((8 : Int) < (cmG i d).batch.puts.length)) 30000 = false := by
   show putsBig [⟨nmA, i, [d]⟩] (decide ((8 : Int) < ((1 : Nat) : Int))) 30000 = false
   have h8 : decide ((8 : Int) < ((1 : Nat) : Int)) = false := by decide
   rw [h8]
   show (dataB [d] 0 false 30000).1 = false
   simp [dataB]
   omega
  rw [this]; rfl
 rw [checkR_iff]
 refine ⟨rfl, by simp [cmG, spareB, fieldsF, zeroRange], ?_, by simp [cmG, listsBad, fieldsF]⟩
 have hf : fieldsF (cmG i d).kind = { fBatch := true, fStamp := true } := by simp [cmG, fieldsF]
 rw [hf]
 unfold headBad
 rw [hb]
 have : soundB (cmG i d).stamp = true := hs
 rw [this]; rfl
theorem rgG_sound : soundR rgG = true := by decide
theorem ofG (s : Str) : ofR rgG s = (⟨0, 4294967295, 1, 1⟩, true) := by
 have hb := hashS_bd s
 unfold ofR findR atR
 rw [if_pos rgG_sound]
 have h0 : idxI (fun r : Range => r.has (hashS s)) rgG = 0 := by
  have : (Range.mk 0 4294967295 1 1).has (hashS s) = true := by simp [Range.has]; omega
  unfold rgG idxI
  rw [List.findIdx?_cons, this]; rfl
 rw [h0]; rfl
theorem verG (l : List Event) : versionT (tabG l) nmA = l.length := by
 unfold versionT tabG
 by_cases h0 : l = []
 ·simp [h0, getA]
 ·simp [h0, getA]
theorem commitG {l : List Event} {z : Nat} {d : Str} (h : GEv l z) (hv : validB d = true) (hd : d.size = z) : applyS (gtS l) (cmG l.length d) = (gtS (l ++ [evG l.length d]), 0) := by
 have hl := h.len
 have hz := h.size
 have hc := cmG_check (i := l.length) (d := d) (by omega) hv (by omega)
 have hm : mayS (gtS l) (cmG l.length d).batch = ([(l.length : Int) + 1], zeroKnown, 0) := by
  have hcb := (checkR_batch hc (.inl rfl)).1
  have hp : mayP (gtS l) (cmG l.length d).batch.puts = 0 := by
   have hs : servesS (gtS l) nmA = true := by
    unfold servesS
    rw [show (gtS l).ring = rgG from rfl, ofG]; rfl
   have hb : busyS (gtS l) nmA = false := by simp [busyS, gtS]
   show mayP (gtS l) [⟨nmA, l.length, [d]⟩] = 0
   simp only [mayP, hs, hb]; rfl
  unfold mayS
  rw [hcb, hp]
  simp only [ne_eq, not_true_eq_false, if_false]
  have hk : knownS (gtS l) (cmG l.length d).batch = ([], zeroKnown, 0) := by
   unfold knownS
   rw [if_pos (by show (⟨#[]⟩ : Str).toList = []; rw [ByteArray.toList_eq])]
  rw [hk]
  show mayV (tabG l) [⟨nmA, l.length, [d]⟩] [] = _
  simp [mayV, verG]
 have hev : eventB (evG l.length d) = true := evG_ok (by omega) hv (by omega)
 have ha : appendT ⟨#[]⟩ [evG l.length d] (tabG l) = (tabG (l ++ [evG l.length d]), 0) := by
  have h1 : alikeB [evG l.length d] = true := by simp [alikeB, hev]
  have h3 : goesB [evG l.length d] (versionT (tabG l) (evG l.length d).stream) = true := by
   rw [show (evG l.length d).stream = nmA from rfl, verG]; simp [goesB, goesFrom, evG]
  unfold appendT
  simp only [h1, key_nil, h3]
  simp only [Bool.true_eq_false, or_self, if_false]
  have hk : (⟨#[]⟩ : Str).toList = [] := by rw [ByteArray.toList_eq]
  unfold addKey
  rw [if_neg (fun h => h.2 hk), show (evG l.length d).stream = nmA from rfl]
  unfold tabG
  by_cases h0 : l = []
  ·subst h0; simp [getA, putA]
  ·simp [h0, getA, putA]
 have hmk : makeB (cmG l.length d).batch [(l.length : Int) + 1] (cmG l.length d).stamp 0 = [evG l.length d] := by
  simp [cmG, makeB, makeF, makeP, evG]
 unfold applyS
 rw [if_neg (by rw [hc]; decide)]
 show commitS _ _ = _
 unfold commitS
 rw [hm]
 simp only [if_true]
 unfold putS
 rw [hmk]
 rw [show (gtS l).table = tabG l from rfl, freshG h]
 have hpp : putP (cmG l.length d).batch.key (cmG l.length d).batch.puts [evG l.length d] (tabG l) = tabG (l ++ [evG l.length d]) := by
  simp [cmG, putP, ha]
 rw [hpp]; rfl
theorem vlen_small {v : Int} (h : v ≤ 16383) : vlen v ≤ 2 := by
 unfold vlen
 rw [if_neg (show ¬ 16384 ≤ v by omega), if_neg (show ¬ 2097152 ≤ v by omega), if_neg (show ¬ 268435456 ≤ v by omega), if_neg (show ¬ 34359738368 ≤ v by omega), if_neg (show ¬ 4398046511104 ≤ v by omega), if_neg (show ¬ 562949953421312 ≤ v by omega), if_neg (show ¬ 72057594037927936 ≤ v by omega), if_neg (show ¬ 9223372036854775808 ≤ v by omega)]
 split <;> omega
theorem lenE_G {i : Nat} {d : Str} (hi : i ≤ 100) (hd : d.size ≤ 1000) : d.size ≤ lenE (evG i d) ∧ lenE (evG i d) ≤ d.size + 10 := by
 have h1 : vlen (evG i d).stream.size = 1 := vlen_one (by show ((1 : Nat) : Int) ≤ 127; decide)
 have h2 : vlen (evG i d).version = 1 := vlen_one (by show (i : Int) + 1 ≤ 127; omega)
 have h3 := vlen_small (v := (evG i d).data.size) (by show (d.size : Int) ≤ _; omega)
 have h4 : lenT (evG i d).stamp = 3 := by
  have e : lenT (evG i d).stamp = vlen ((i : Int) + 1) + (vlen 0 + vlen 1) := by simp [lenT, sumV, evG]
  rw [e, vlen_one (by omega), vlen_one (by decide), vlen_one (by decide)]
 have h5 : vlen (evG i d).index = 1 := vlen_one (by show (0 : Int) ≤ 127; decide)
 have h6 : (evG i d).stream.size = 1 := rfl
 have h7 : (evG i d).data.size = d.size := rfl
 unfold lenE lenE0
 rw [h1, h2, h4, h5, h6]
 rw [h7] at h3 ⊢
 omega
theorem lensE_G {z : Nat} (hz : z ≤ 1000) : ∀ l : List Event, (∀ e ∈ l, ∃ i d, e = evG i d ∧ i ≤ 100 ∧ d.size = z) → l.length * z ≤ lensE l ∧ lensE l ≤ l.length * (z + 10)
 | [], _ => by simp [lensE]
 | a :: l, h => by
   obtain ⟨i, d, rfl, hi, hd⟩ := h a (by simp)
   have h1 := lensE_G hz l fun e he => h e (by simp [he])
   have h2 := lenE_G (i := i) (d := d) hi (by omega)
   have e : lensE (evG i d :: l) = lenE (evG i d) + lensE l := by simp [lensE]
   rw [e, List.length_cons, Nat.add_mul, Nat.add_mul]; omega
theorem weighG {l : List Event} {z : Nat} (h : GEv l z) {r : Range} (hr : inR r nmA = true) : ((l.length * z : Nat) : Int) ≤ weighX (gtS l) r ∧ weighX (gtS l) r ≤ ((l.length * (z + 20) + 50 : Nat) : Int) := by
 have hl := h.len
 have hz := h.size
 unfold weighX
 rw [show (gtS l).table = tabG l from rfl, takeG l hr]
 have hh : wHs ((gtS l).held.map (·.2)) = 0 := rfl
 rw [hh]
 unfold strG
 by_cases h0 : l = []
 ·subst h0; simp [wSs]
 ·rw [if_neg h0]
  have hw : wSs [⟨nmA, l, []⟩] = lenS ⟨nmA, l, []⟩ := by
   have hs : streamB ⟨nmA, l, []⟩ = true := by unfold streamB; rw [nmA_name, h.ok]; rfl
   simp [wSs, wS, hs]
  rw [hw]
  have h1 := lensE_G hz l fun e he => by
   obtain ⟨j, hj, rfl⟩ := List.mem_iff_getElem.1 he
   obtain ⟨d, hd, _, hq⟩ := h.each j _ (jg hj)
   exact ⟨j, d, hd, by omega, hq⟩
  have h2 : lenS ⟨nmA, l, []⟩ = (vlen ((1 : Nat) : Int) + 1) + vlen l.length + lensE l + vlen ((0 : Nat) : Int) + 0 := rfl
  rw [vlen_one (by decide), vlen_one (by omega), vlen_one (by decide)] at h2
  have h3 : l.length * (z + 20) = l.length * (z + 10) + l.length * 10 := by rw [← Nat.mul_add]
  omega
theorem takeG_len (l : List Event) {r : Range} (hr : inR r nmA = true) : (takeT (tabG l) r).length ≤ 1 := by
 rw [takeG l hr]; unfold strG; split <;> simp
def rG : Range := ⟨0, 4294967295, 1, 1⟩
theorem inG : inR rG nmA = true := inR_all nmA
theorem frzG_i (l : List Event) : frzI (gtS l) 0 = 0 := rfl
theorem frzG_x (l : List Event) : frzX (gtS l) 0 = rG := rfl
theorem frzG_lock (l : List Event) (r : Range) : lockedS (gtS l) r = false := by simp [lockedS, gtS]
theorem frzG_check : checkR (frzR rG 0) = 0 := by decide +kernel
theorem frzG_code (l : List Event) : (applyS (gtS l) (frzR rG 0)).2 = 1 := by
 unfold applyS
 rw [if_neg (by rw [frzG_check]; decide)]
 rw [show doS (gtS l) (frzR rG 0) = freezeS (gtS l) (frzR rG 0) from rfl]
 unfold freezeS
 rw [if_neg (by
  intro q
  rcases q with q | q
  ·exact q (by show rG ∈ rgG; simp [rgG, rG])
  ·exact q rfl)]
 rw [if_neg (by
  intro q
  rcases q with q | q
  ·have : icedS (gtS l) (frzR rG 0).range.first = -1 := by simp [icedS, gtS, idxI]
   rw [this] at q; omega
  ·rw [frzG_lock] at q; cases q)]
 rw [if_pos (.inl (by show (0 : Int) < 1; decide))]
theorem frzG (l : List Event) : frzCode (gtS l) 0 = if 30000 < weighX (gtS l) rG then 2 else 0 := by
 unfold frzCode
 rw [frzG_i, frzG_x, if_neg (by decide), if_neg (by rw [frzG_code]; decide), if_neg (by rw [frzG_lock]; decide), if_neg (c := 1000 < (takeT (gtS l).table rG).length) (by have := takeG_len l inG; show ¬ 1000 < (takeT (tabG l) rG).length; omega)]
theorem gt_new : newS 1 1 = some (gtS []) := by kernel_rfl
theorem costG (i : Nat) (d : Str) : costR (cmG i d) = 1 := rfl
theorem rgG_fit : ∀ x ∈ rgG, x.fit := fun x hx => by
 rcases List.mem_singleton.1 hx with rfl
 exact ⟨⟨by decide, by decide⟩, ⟨by decide, by decide⟩, ⟨by decide, by decide⟩, ⟨by decide, by decide⟩⟩
theorem invG {l : List Event} {z N : Nat} {d : Str} (h : GEv l z) (hv : validB d = true) (hd : d.size = z) (hi : Inv (gtS l) N) (hN : N ≤ 100) : Inv (gtS (l ++ [evG l.length d])) (N + 1) := by
 have h1 := apply_inv (r := cmG l.length d) hi (by omega)
 rw [commitG h hv hd, costG] at h1
 exact h1
end Go.Proofs.YtcmjgghkmdbphaaGreatDoor
namespace Go.Proofs.YtcmjgghkmdbphaaGreatDoor
open Go.RowKit
def GotLet (n : Nat) (e : Ending) : Prop := ∃ t : Str, e = .returned (.string t) ∧ t.size = n ∧ validB t = true
theorem letters_valid (l : List Int) (h : ∀ x ∈ l, 0 ≤ x ∧ x ≤ 127) : validB (strOfNums l) = true := by
 unfold validB
 rw [strOfNums_data, Lib.validD_ascii l.length _ (fun b hb => by
  have hb2 := List.mem_of_mem_take hb
  obtain ⟨x, hx, rfl⟩ := List.mem_map.1 hb2
  have := h x hx
  rw [UInt8.toNat_ofNat']; omega), List.drop_of_length_le (by simp)]
 rfl
theorem sq_bd {i : Nat} (hi : i ≤ 999) : 0 ≤ (i : Int) * i ∧ (i : Int) * i ≤ 998001 := by
 have h2 := Nat.mul_le_mul hi hi
 have h4 : ((i * i : Nat) : Int) ≤ 998001 := by omega
 rw [Int.natCast_mul] at h4
 exact ⟨Int.mul_nonneg (by omega) (by omega), h4⟩
theorem letters_any (n k : Nat) (w : World) (hn : n ≤ 1000) (hk : k ≤ 100) : Calls Tryz.prog 45 #[.int .i64 n, .int .i64 k] w fun e w' => GotLet n e ∧ Below w.heap.size w w' := by
 have hmax : max (n : Int) 0 = n := by omega
 have CR := jh (fun (i : Nat) (W : World) (hi : i ≤ 999) => round_any ((i : Int) * i + k) 26 W (by
  have h1 := sq_bd hi
  omega) (by omega))
 go_enter Tryz.func45, Tryz.ntmps45
 have hmk := run_make_row' (P := Tryz.prog) 215 5 (.int .u8 0) 1 Tryz.underlying215 byte_info rfl .i64 .i64 n (by omega) (by omega)
 go_wp2_with fail
 go_loopw [6] (fun iv wr => ∃ (i : Nat) (l : List Int), i ≤ n ∧ iv = .int .i64 i ∧ l.length = n ∧ Blk wr w.heap.size 5 (l.map (Value.int .u8)) ∧ Below w.heap.size w wr ∧ Hid (∀ x ∈ l, 0 ≤ x ∧ x ≤ 127)) (fun iv _ => n - (intOf iv).toNat)
 case atStart => exact ⟨0, List.replicate n 0, Nat.zero_le _, rfl, by simp, by
  have h1 := Blk.new w 5 ((List.replicate n (0 : Int)).map (Value.int .u8))
  have h2 : madeCells #[.int .u8 0] n = ((List.replicate n (0 : Int)).map (Value.int .u8)).toArray := by
   apply Array.ext'
   rw [toList_madeCells_one]; simp
  rw [h2]; exact h1, (jb _ _).al _, jh (fun x hx => by rw [(List.mem_replicate.1 hx).2]; omega)⟩
 case round =>
  obtain ⟨i, l, hi, rfl, hl, hB, hbl, HL⟩ := hrel
  have hln := hB.lt
  by_cases hlt : i < n
  ·have hlt' : (i : Int) < n := by omega
   have hlb := HL.out
   have hi1 : i ≤ 999 := by omega
   have hc := hB.cell i
   rw [List.getElem?_map, jg (show i < l.length by omega)] at hc
   have hfz := hB.frozen i
   have C := CR.out i wr hi1
   have HBB := jh hB
   have HBL := jh hbl
   have hsq := sq_bd hi1
   obtain ⟨hsq1, hsq2⟩ := hsq
   go_wp2_with fail
   refine C.mono ?_
   rintro e w1 ⟨rfl, rfl⟩
   have hr0 : 0 ≤ ((i : Int) * i + k) % 26 := Int.emod_nonneg _ (by omega)
   have hr1 : ((i : Int) * i + k) % 26 ≤ 25 := by omega
   generalize ((i : Int) * i + k) % 26 = r at *
   clear C hsq1 hsq2 hlb
   go_wp2_with fail
   go_round
   case rel => exact ⟨i + 1, l.set i (97 + r), by omega, by go_num, by simpa using hl, by rw [List.map_set]; exact HBB.out.set_ i _, HBL.out.st (Nat.le_refl _) _, jh (fun x hx => by
    rcases List.mem_or_eq_of_mem_set hx with h | rfl
    ·exact HL.out x h
    ·omega)⟩
   case measure => simp [intOf]; omega
  ·have hin : i = n := by omega
   have hcv := run_convert_bytes_arg (P := Tryz.prog) wr 215 5 Tryz.underlying215 Tryz.underlying5 w.heap.size 0 n n l hl (fun i hi => by
    rw [Nat.zero_add, hB.cell i, List.getElem?_map, jg (by omega), List.getD, jg (by omega)]; rfl) 9 Tryz.underlying9
   have HLV := jh (letters_valid l HL.out)
   have hsz := strOfNums_size l
   have HBL := jh hbl
   clear hB hbl
   go_wp2_with fail
   go_ret
   exact ⟨⟨_, rfl, by rw [hsz, hl], HLV.out⟩, HBL.out⟩
end Go.Proofs.YtcmjgghkmdbphaaGreatDoor
namespace Go.Proofs.YtcmjgghkmdbphaaGreatDoor
open Go.RowKit
theorem madeG_any (w : World) : Calls Tryz.prog 44 #[.int .i64 1, .int .i64 1, .slice none 0 0] w fun e w' => GotMade w.heap.size (gtS []) e w' ∧ Below w.heap.size w w' := by
 have C1 := newState_any 1 1 w (i64_small 1 (by omega)) (i64_small 1 (by omega))
 unfold GotState at C1
 rw [gt_new] at C1
 dsimp only at C1
 go_enter Tryz.func44, Tryz.ntmps44
 go_wp2_with fail
 refine C1.mono ?_
 clear C1
 rintro e w1 ⟨⟨g, rfl, hg, hst, _⟩, hb1⟩
 have H1 := jh (ja hst hb1)
 have hz1 := hb1.size
 clear hst hb1
 have C3 := rNew_any 1 1 w1 (by omega) (by omega)
 unfold GotPtr at C3
 unfold ptrV
 go_wp2_with fail
 refine C3.mono ?_
 clear C3
 rintro e w3 ⟨⟨gm, rfl, hgm⟩, hb3⟩
 have H3 := jh hb3
 clear hb3
 go_wp2_with fail
 go_loopw [12] (fun iv wr => iv = .int .i64 0 ∧ wr = w3) (fun _ _ => 0)
 case atStart => exact ⟨rfl, rfl⟩
 case round =>
  obtain ⟨rfl, rfl⟩ := hrel
  go_wp2_with fail
  go_ret2
  exact ⟨⟨g, gm, rfl, hg, w1.heap.size, H3.out.size, by
   obtain ⟨v, a, b⟩ := H1.out.1
   exact ⟨v, a.ext H3.out, b.low.same (js H3.out)⟩⟩, H1.out.2.tr H3.out⟩
def cmGV (i : Nat) (b : Nat) : List Value := [.int .i64 3, .int .i64 0, .int .i64 0, .bool false, .int .i64 ((i : Int) + 1), .int .i64 0, .int .i64 1, .int .i64 0, .int .i64 0, .int .i64 0, .slice none 0 0, .string ⟨#[]⟩, .slice (some ⟨b, 0, none⟩) 1 1, .int .i64 0, .int .i64 0, .int .i64 0, .int .i64 0, .slice none 0 0]
theorem cmG_cells (i : Nat) (d : Str) (b : Nat) : (cmG i d).cells none 0 (some ⟨b, 0, none⟩) 1 none 0 = cmGV i b := rfl
theorem cmG_at {w : World} {xb pb i : Nat} {d : Str} (hd : sfit d) (hi : i ≤ 100) (hx : Blk w xb 9 [.string d]) (hp : Blk w pb 69 [.string ⟨#[97]⟩, .int .i64 i, .slice (some ⟨xb, 0, none⟩) 1 1]) :
 RecAt w (fun k => k = xb ∨ k = pb) (cmG i d) none 0 (some ⟨pb, 0, none⟩) 1 none 0 := by
 have r1 : StrR.Row w (fun k => False ∨ k = xb) (some ⟨xb, 0, none⟩) [d] := Rep.Row.blk hx ⟨rfl, hd⟩
 have r2 := Rep.Row.blk (R := PutR) (a := ⟨nmA, i, [d]⟩) hp (put_rep.2 ⟨some ⟨xb, 0, none⟩, 1, rfl, show sfit nmA from (by show (1 : Nat) ≤ _; omega), i64_small i (by omega), Nat.le_refl 1, (by decide : (1 : Nat) ≤ 9223372036854775807), r1⟩)
 have r3 : PutR.Row w (fun k => k = xb ∨ k = pb) (some ⟨pb, 0, none⟩) (cmG i d).batch.puts := r2.mono fun k h _ => by rcases h with (h | h) | h <;> first | exact h.elim | exact .inl h | exact .inr h
 exact ⟨i64_small 3 (by omega), i64_small 0 (by omega), i64_small 0 (by omega), ⟨show i64 ((i : Int) + 1) from i64_of (by omega), i64_small 0 (by omega), i64_small 1 (by omega)⟩, ⟨i64_small 0 (by omega), i64_small 0 (by omega), i64_small 0 (by omega)⟩, ⟨Nat.le_refl _, by decide, Rep.Row.nil_⟩, (by show (0 : Nat) ≤ _; omega), ⟨Nat.le_refl _, by decide, r3⟩, ⟨i64_small 0 (by omega), i64_small 0 (by omega), i64_small 0 (by omega), i64_small 0 (by omega)⟩, ⟨Nat.le_refl _, by decide, Rep.Row.nil_⟩⟩
theorem cmG_fair (i : Nat) (d : Str) : (cmG i d).Fair := ⟨by show (1 : Nat) ≤ _; decide, (fun p hp => by rcases List.mem_singleton.1 hp with rfl; show (1 : Nat) ≤ _; decide), by show (0 : Nat) ≤ _; decide, by show (0 : Nat) ≤ _; decide, by show (0 : Nat) ≤ _; decide, fun s hs => by cases hs⟩
theorem cmG_put (i : Nat) (d : Str) : PutFair (cmG i d).streams := ⟨by show (0 : Nat) ≤ _; decide, fun s hs => by cases hs⟩
structure GtI (w : World) (g : Nat) (P : Nat → Prop) (l : List Event) (z : Nat) (W : World) : Prop where
 st : StAt W P g (gtS l)
 pg : ¬ P g
 gev : GEv l z
 inv : Inv (gtS l) l.length
 ge : w.heap.size ≤ g
 tabs : Tabs W
 below : Below w.heap.size w W
section
variable {w W W' : World} {g z : Nat} {P : Nat → Prop} {l : List Event}
theorem GtI.ext (h : GtI w g P l z W) (hb : Below W.heap.size W W') : GtI w g (fun k => P k ∧ k < W.heap.size) l z W' :=
 ⟨by obtain ⟨v, x, d⟩ := h.st; exact ⟨v, x.ext hb, d.low.same (js hb)⟩, fun q => h.pg q.1, h.gev, h.inv, h.ge, h.tabs.below hb, h.below.tr hb⟩
theorem GtI.out {l' : List Event} (h : GtI w g P l z W) (h2 : 2 ≤ w.heap.size) (hs : StAt W' (fun k => P k ∨ W.heap.size ≤ k) g (gtS l')) (hO : Only (· = g) W W') (hg : GEv l' z) (hi : Inv (gtS l') l'.length) : GtI w g (fun k => P k ∨ W.heap.size ≤ k) l' z W' := by
 have hge := h.ge
 have hlt := h.st.lt
 exact ⟨hs, fun q => by rcases q with q | q; exact h.pg q; omega, hg, hi, h.ge, h.tabs.only hO (by intro e; have e' : 0 = g := e; omega) (by intro e; have e' : 1 = g := e; omega), h.below.trans (hO.low (fun k e => by have e' : k = g := e; omega) h.below.size)⟩
end
theorem weighG_r {l : List Event} {r : Range} (hr : inR r nmA = true) : weighX (gtS l) r = weighX (gtS l) rG := by
 unfold weighX
 rw [show (gtS l).table = tabG l from rfl, takeG l hr, takeG l inG]
theorem handGreat_law (n size : Int) (w : World) (hT : Tabs w) (h2 : 2 ≤ w.heap.size) :
 Calls Tryz.prog 5 #[.int .i64 n, .int .i64 size] w fun e w' => e = .returned (.bool true) ∧ Below w.heap.size w w' := by
 have CA := jh (fun W (hW : Below w.heap.size w W) => awake23_any W (hT.below hW) (by have := hW.size; omega))
 have HT := jh hT
 clear hT
 have hcase : n < 0 ∨ (decide (n < 0) = false ∧ 40 < n) ∨ (decide (n < 0) = false ∧ decide (40 < n) = false ∧ size < 0) ∨ (decide (n < 0) = false ∧ decide (40 < n) = false ∧ decide (size < 0) = false ∧ 1000 < size) ∨
  ((decide (n < 0) = false ∧ decide (40 < n) = false ∧ decide (size < 0) = false ∧ decide (1000 < size) = false) ∧ 0 ≤ n ∧ n ≤ 40 ∧ 0 ≤ size ∧ size ≤ 1000) := by
  simp only [decide_eq_false_iff_not]; omega
 rcases hcase with h | ⟨h, h'⟩ | ⟨h, h', h''⟩ | ⟨h, h', h'', h3⟩ | ⟨⟨h, h', h'', h3⟩, n0, n1, w0, w1⟩
 iterate 4
  ·go_enter Tryz.func5, Tryz.ntmps5
   go_wp2_with fail
   refine (CA.out w (jb _ _)).mono ?_
   rintro e w1 ⟨rfl, hb1⟩
   go_wp2_with fail
   go_ret
   exact ⟨rfl, hb1⟩
 obtain ⟨z, rfl⟩ : ∃ z : Nat, size = z := ⟨size.toNat, by omega⟩
 have C1 := madeG_any w
 unfold GotMade at C1
 go_enter Tryz.func5, Tryz.ntmps5
 go_wp2_with fail
 refine C1.mono ?_
 clear C1
 rintro e v1 ⟨⟨g, gm, rfl, hg, m1, hm1, hst⟩, hb1⟩
 have HG := jh (show GtI w g (fun k => (w.heap.size ≤ k ∧ k ≠ g) ∧ k < m1) [] z v1 from ⟨hst, fun q => q.1.2 rfl, GEv.nil (by omega), inv_new gt_new, hg, HT.out.below hb1, hb1⟩)
 clear hst hb1 hm1
 go_wp2_with fail
 go_loopw [7] (fun iv wr => ∃ (l : List Event) (P : Nat → Prop), (l.length : Int) ≤ n ∧ iv = .int .i64 l.length ∧ GtI w g P l z wr) (fun iv _ => n.toNat - (intOf iv).toNat)
 case atStart => exact ⟨[], _, n0, rfl, HG.out⟩
 case round =>
  clear HG
  obtain ⟨l, P, hk, rfl, hI⟩ := hrel
  have hge := hI.ge
  by_cases hlt : (l.length : Int) < n
  ·have C2 := letters_any z l.length wr (by omega) (by omega)
   have HI := jh hI
   clear hI
   unfold GotLet at C2
   go_wp2_with fail
   refine C2.mono ?_
   clear C2
   rintro e v2 ⟨⟨t, rfl, ht1, ht2⟩, hb2⟩
   have hb3 : Below v2.heap.size v2 ((v2.alloc (.cells #[.string t] 9)).alloc (.cells #[.string ⟨#[97]⟩, .int .i64 l.length, .slice (some ⟨v2.heap.size, 0, none⟩) 1 1] 69)) := by repeat (with_reducible first | assumption | exact jb _ _ | refine Below.al ?_ _ | refine Below.drew ?_ | apply Below.st1)
   have HX := jh (ja ((Blk.new v2 9 [.string t]).alloc (.cells #[.string ⟨#[97]⟩, .int .i64 l.length, .slice (some ⟨v2.heap.size, 0, none⟩) 1 1] 69)) (Blk.new1 v2 (.cells #[.string t] 9) 69 [.string ⟨#[97]⟩, .int .i64 l.length, .slice (some ⟨v2.heap.size, 0, none⟩) 1 1]))
   have HR := jh (HI.out.ext (hb2.tr hb3))
   have HTX := jh (ja ht1 ht2)
   have hz2 := hb2.size
   have hz3 := hb3.size
   have hgl := HI.out.st.lt
   clear hb2 hb3 ht1 ht2
   have C3 := applyH_any g (gtS l) (cmG l.length t) (.inl rfl) none (some ⟨v2.heap.size + 1, 0, none⟩) none 0 1 0 _ _ ((v2.alloc (.cells #[.string t] 9)).alloc (.cells #[.string ⟨#[97]⟩, .int .i64 l.length, .slice (some ⟨v2.heap.size, 0, none⟩) 1 1] 69)) HR.out.st HR.out.pg (HR.out.inv.fit (by omega)) (cmG_at (by unfold sfit; have := HTX.out.1; omega) (by omega) HX.out.1 HX.out.2) (fun e => by omega) (cmG_fair _ _) HR.out.tabs (by omega) (cmG_put _ _) (by show (1 : Nat) ≤ _; decide) (by show (freshT (tabG l)).length ≤ _; rw [freshG HR.out.gev]; unfold tabG; split <;> simp)
   rw [commitG HR.out.gev HTX.out.2 HTX.out.1, cmG_cells] at C3
   unfold StOut ptrV cmGV at C3
   go_wp2_with fail
   refine C3.mono ?_
   clear C3
   rintro e v4 ⟨rfl, hst, hO⟩
   have H1 := jh (HR.out.out h2 hst hO (HR.out.gev.more (by omega) HTX.out.2 HTX.out.1) (by
    have := invG HR.out.gev HTX.out.2 HTX.out.1 HR.out.inv (by omega)
    rw [List.length_append, List.length_singleton]; exact this))
   clear hst hO
   go_wp2_with fail
   go_round
   case rel => exact ⟨l ++ [evG l.length t], _, by rw [List.length_append, List.length_singleton]; omega, by rw [List.length_append, List.length_singleton]; go_num, H1.out⟩
   case measure => simp [intOf]; omega
  ·have hln : n = (l.length : Int) := by omega
   subst hln
   have hgev := hI.gev.len
   have HW := weighG hI.gev (r := allHashes) (inR_all nmA)
   have HWR := weighG_r (l := l) (r := allHashes) (inR_all nmA)
   have CW := weight_ex g (gtS l) allHashes P wr hI.st (hI.inv.fit (by omega)) (by show (0 : Nat) ≤ _; omega) hI.tabs (by have := hI.below.size; omega)
   have HFZ := frzG l
   rw [← HWR] at HFZ
   have HXR := jh HWR
   clear HWR
   generalize weighX (gtS l) allHashes = x at *
   have hp1 : (l.length : Int) * z ≤ x := by have := HW.1; rwa [Int.natCast_mul] at this
   have hp2 : x ≤ (l.length : Int) * ((z : Int) + 20) + 50 := by have := HW.2; rwa [Int.natCast_add, Int.natCast_mul, Int.natCast_add] at this
   have hp3 : 0 ≤ (l.length : Int) * z := Int.mul_nonneg (by omega) (by omega)
   have hp4 : (l.length : Int) * ((z : Int) + 20) = (l.length : Int) * z + (l.length : Int) * 20 := Int.mul_add _ _ _
   have hp5 : (l.length : Int) * z ≤ 40 * 1000 := by
    have h2 := Nat.mul_le_mul hgev (show z ≤ 1000 by omega)
    have h4 : ((l.length * z : Nat) : Int) ≤ 40000 := by omega
    rw [Int.natCast_mul] at h4; omega
   have hp6 : (l.length : Int) * ((z : Int) + 20) ≤ 50000 := by omega
   have hpk : ∀ y1 y2 : Int, 0 ≤ y1 → y1 ≤ 40 * 1000 → y1 ≤ y2 → y2 ≤ 50000 → wrap64 y1 = y1 ∧ wrap64 y2 = y2 ∧ wrap64 (y2 + 50) = y2 + 50 := fun y1 y2 a1 a2 a3 a4 => ⟨wrap_in _ (by omega), wrap_in _ (by omega), wrap_in _ (by omega)⟩
   obtain ⟨hq1, hq3, hq4⟩ := hpk _ _ hp3 hp5 (by rw [hp4]; omega) hp6
   have hq2 : wrap64 ((z : Int) + 20) = (z : Int) + 20 := wrap_in _ (by omega)
   have hd1 : decide ((l.length : Int) * z ≤ x) = true := decide_eq_true hp1
   have hd2 : decide (x ≤ (l.length : Int) * ((z : Int) + 20) + 50) = true := decide_eq_true hp2
   unfold ptrV allHashes at CW
   have HI := jh hI
   clear hI HW hp4 HXR hp6 hpk
   go_wp2_with fail
   refine CW.mono ?_
   clear CW
   rintro e v2 ⟨rfl, hb2⟩
   have H2 := jh (HI.out.ext hb2)
   have CF := freezeH_ex g (gtS l) 0 2 _ v2 H2.out.st (H2.out.inv.fit (by omega)) (by show (0 : Nat) ≤ _; omega) H2.out.tabs (by have := H2.out.below.size; omega) (by show (1 : Nat) ≤ _; decide) (by show (freshT (tabG l)).length ≤ _; rw [freshG H2.out.gev]; unfold tabG; split <;> simp) rgG_fit
   unfold ptrV at CF
   clear hb2
   by_cases hbig : 30000 < x
   ·rw [if_pos hbig] at HFZ
    unfold GotFrz at CF
    rw [HFZ] at CF
    clear HFZ
    go_wp2_with fail
    refine CF.mono ?_
    clear CF
    rintro e v3 ⟨hgot, hb3⟩
    obtain ⟨_, rfl⟩ : (2 : Int) ≠ 0 ∧ e = _ := by
     rcases hgot with h | h
     ·exact h
     ·exact absurd h.1 (by decide)
    have H3 := jh (H2.out.below.tr hb3)
    have hb4 := hb3.al (.cells #[.int .i64 0, .int .i64 0, .int .i64 0, .bool false, .int .i64 0, .int .i64 0, .int .i64 0, .int .i64 0, .int .i64 0, .int .i64 0, .slice none 0 0, .string ⟨#[]⟩, .slice none 0 0, .int .i64 0, .int .i64 0, .int .i64 0, .int .i64 0, .slice none 0 0] 46)
    have H4 := jh (H2.out.below.tr hb4)
    have CA4 := CA.out _ H4.out
    clear hb3 hgot hb4
    unfold recZ
    go_wp2_with (first
     | (refine wpList_store_new (cs := #[.int .i64 0, .int .i64 0, .int .i64 0, .bool false, .int .i64 0, .int .i64 0, .int .i64 0, .int .i64 0, .int .i64 0, .int .i64 0, .slice none 0 0, .string ⟨#[]⟩, .slice none 0 0, .int .i64 0, .int .i64 0, .int .i64 0, .int .i64 0, .slice none 0 0]) rfl rfl rfl rfl rfl (by kernel_rfl) rfl (by simp [Value.oneCell']) ?_)
     | fail)
    refine CA4.mono ?_
    rintro e v5 ⟨rfl, hb5⟩
    have H5 := jh (H4.out.tr hb5)
    clear hb5
    go_wp2_with fail
    go_ret
    exact ⟨rfl, H5.out⟩
   ·rw [if_neg hbig] at HFZ
    unfold GotFrz at CF
    rw [HFZ, frzG_x] at CF
    clear HFZ
    have hbig' : decide ((30000 : Int) < x) = false := jd hbig
    go_wp2_with fail
    refine CF.mono ?_
    clear CF
    rintro e v3 ⟨hgot, hb3⟩
    obtain rfl : e = Ending.returned (.tuple #[.agg (frzV rG 2).toArray, .int .i64 0]) := by
     rcases hgot with h | h
     ·exact absurd rfl h.1
     ·exact h.2
    have hb4 := hb3.al (.cells #[.int .i64 9, .int .i64 0, .int .i64 2, .bool false, .int .i64 0, .int .i64 0, .int .i64 0, .int .i64 0, .int .i64 0, .int .i64 0, .slice none 0 0, .string ⟨#[]⟩, .slice none 0 0, .int .i64 rG.first, .int .i64 rG.last, .int .i64 rG.owner, .int .i64 rG.epoch, .slice none 0 0] 46)
    have H4 := jh (H2.out.below.tr hb4)
    have CA4 := CA.out _ H4.out
    clear hb3 hgot hb4
    unfold frzV
    go_wp2_with (first
     | (refine wpList_store_new (cs := #[.int .i64 9, .int .i64 0, .int .i64 2, .bool false, .int .i64 0, .int .i64 0, .int .i64 0, .int .i64 0, .int .i64 0, .int .i64 0, .slice none 0 0, .string ⟨#[]⟩, .slice none 0 0, .int .i64 rG.first, .int .i64 rG.last, .int .i64 rG.owner, .int .i64 rG.epoch, .slice none 0 0]) rfl rfl rfl rfl rfl (by kernel_rfl) rfl (by simp [Value.oneCell']) ?_)
     | fail)
    refine CA4.mono ?_
    rintro e v5 ⟨rfl, hb5⟩
    have H5 := jh (H4.out.tr hb5)
    clear hb5
    go_wp2_with fail
    go_ret
    exact ⟨rfl, H5.out⟩
end Go.Proofs.YtcmjgghkmdbphaaGreatDoor
