/- Texts, rune by rune. The shelf contract of utf8.ValidString, laid at this program (written by the kit tool lay-plain). Texts: valid, names, keys. Numbers as bytes. Texts, numbers and stamps as bytes. -/
import Derived.Test.YtcmjgghkmdbphaaGreatDoorT01
import Derived.Shelf.Unicode.ValidAny
import Derived.Deep.LoopGhost
import Derived.Shelf.Abstract
import Derived.Test.YtcmjgghkmdbphaaGreatDoorProg
import Derived.Lib.AppendStr
set_option maxRecDepth 20000
set_option maxHeartbeats 25600000
namespace Go.Proofs.YtcmjgghkmdbphaaGreatDoor
open Go.RowKit
def validB (s : Str) : Bool := Lib.validD s.data.toList
def everyFrom (p : Int → Bool) (most : Int) (s : Str) : Nat → Nat → Int → Bool
 | 0, _, _ => true
 | f + 1, pos, n => if pos < s.size then (if n + 1 ≤ most && p (Utf8.decode s pos).1 then everyFrom p most s f (pos + (Utf8.decode s pos).2) (n + 1) else false) else true
def everyB (p : Int → Bool) (most : Int) (s : Str) : Bool := everyFrom p most s (s.size + 1) 0 0 && validB s
def nameB (s : Str) : Bool := !s.toList.isEmpty && everyB namedB 40 s
def keyB (s : Str) : Bool := everyB (fun c => !controlB c) 40 s
theorem decode_width (s : ByteArray) (i : Nat) : 1 ≤ (Utf8.decode s i).2 := by
 unfold Utf8.decode
 dsimp only
 repeat' split
 all_goals simp
theorem decode_fits (s : ByteArray) (i : Nat) (h : i < s.size) : i + (Utf8.decode s i).2 ≤ s.size := by
 unfold Utf8.decode
 dsimp only
 repeat' split
 all_goals simp_all
 all_goals omega
def setIter (w : World) (g : Nat) (s : ByteArray) (pos : Nat) : World := { w with heap := w.heap.setIfInBounds g (.stringIter s pos) }
theorem setIter_at {w : World} {g : Nat} {s : ByteArray} {pos : Nat} (h : g < w.heap.size) : (setIter w g s pos).heap[g]? = some (.stringIter s pos) := by
 simp [setIter, h]
theorem setIter_only (w : World) (g : Nat) (s : ByteArray) (pos : Nat) : Only (· = g) w (setIter w g s pos) :=
 ⟨rfl, rfl, rfl, by simp [setIter], fun k _ hn => by simp only [setIter, Array.getElem?_setIfInBounds]; rw [if_neg (fun h => hn h.symm)]⟩
theorem run_next_str {P : Program} {w : World} {g : Nat} {s : ByteArray} {pos : Nat} (ty : TypeId) (hg : w.heap[g]? = some (.stringIter s pos)) (h : pos < s.size) :
 (Instr.next (.pointer (some ⟨g, 0, none⟩)) true ty).run P w = .ok (.tuple #[.bool true, .int .i64 pos, .int .i32 (Utf8.decode s pos).1]) (setIter w g s (pos + (Utf8.decode s pos).2)) := by
 simp [Instr.next, getObj, setObj, Sem.run, hg, h, setIter, goInt]
theorem run_next_str_end {P : Program} {w : World} {g : Nat} {s : ByteArray} {pos : Nat} (ty : TypeId) (hg : w.heap[g]? = some (.stringIter s pos)) (h : ¬ pos < s.size) :
 (Instr.next (.pointer (some ⟨g, 0, none⟩)) true ty).run P w = .ok (.tuple #[.bool false]) w := by
 simp [Instr.next, getObj, Sem.run, hg, h]
def Tabs (w : World) : Prop := Lib.Utf8Tabs 0 1 w
theorem Tabs.below {w w' : World} (h : Tabs w) (hb : Below w.heap.size w w') : Tabs w' := Utf8Tabs_below h hb
theorem everyFrom_yes {p : Int → Bool} {most : Int} {s : Str} {f pos : Nat} {n : Int} {c : Nat} {wd : Nat} (hd : Utf8.decode s pos = (c, wd)) (hl : pos < s.size) (h1 : n + 1 ≤ most) (h2 : p c = true) : everyFrom p most s (f + 1) pos n = everyFrom p most s f (pos + wd) (n + 1) := by
 simp [everyFrom, hd, hl, h1, h2]
theorem everyFrom_no {p : Int → Bool} {most : Int} {s : Str} {f pos : Nat} {n : Int} {c : Nat} {wd : Nat} (hd : Utf8.decode s pos = (c, wd)) (hl : pos < s.size) (h1 : ¬ n + 1 ≤ most ∨ p c = false) : everyFrom p most s (f + 1) pos n = false := by
 simp only [everyFrom, hd, if_pos hl]
 rcases h1 with h | h <;> simp [h]
theorem everyFrom_end {p : Int → Bool} {most : Int} {s : Str} {f pos : Nat} {n : Int} (hl : ¬ pos < s.size) : everyFrom p most s (f + 1) pos n = true := by
 simp [everyFrom, hl]
theorem every_any (F : FuncId) (p : Int → Bool) (hF : ∀ (c : Int) (w : World), Calls Tryz.prog F #[.int .i32 c] w fun e w' => e = .returned (.bool (p c)) ∧ w = w') (s : Str) (most : Int) (w : World) (_hs : s.size ≤ 9223372036854775807) (hm : 0 ≤ most ∧ most ≤ 100) (hT : Tabs w) (hent : ∀ args w, (callFunc F args).run Tryz.prog w = .ok (.enter F args) w)
 (hV : ∀ w, Tabs w → Calls Tryz.prog 292 #[.string s] w fun e w' => e = .returned (.bool (validB s)) ∧ Below w.heap.size w w') :
  Calls Tryz.prog 288 #[.string s, .int .i64 most, .func (.func F) #[] #[]] w fun e w' => e = .returned (.bool (everyB p most s)) ∧ Below w.heap.size w w' := by
 have HF := jh hF; clear hF
 have HV := jh hV; clear hV
 go_enter Tryz.func288, Tryz.ntmps288
 go_wp2
 go_loopw [7, 9] (fun n _ wr => ∃ (k f pos : Nat), (k : Int) ≤ most ∧ n = .int .i64 k ∧ pos ≤ s.size ∧ s.size < f + pos ∧ wr.heap[w.heap.size]? = some (.stringIter s pos) ∧ Below w.heap.size w wr ∧ everyFrom p most s f pos k = everyFrom p most s (s.size + 1) 0 0) (fun _ _ wr => match wr.heap[w.heap.size]? with | some (.stringIter s pos) => s.size - pos | _ => 0)
 case atStart => exact ⟨0, s.size + 1, 0, by omega, rfl, Nat.zero_le _, by omega, World.iter_heap _ _ _, (jb _ _).al _, rfl⟩
 case round =>
  obtain ⟨k, f, pos, hk, rfl, hpos, hf, hit, hbl, hev⟩ := hrel
  obtain ⟨f, rfl⟩ : ∃ f', f = f' + 1 := ⟨f - 1, by omega⟩
  have hg : w.heap.size < wr.heap.size := (Array.getElem?_eq_some_iff.1 hit).1
  have HE := jh hev; clear hev
  by_cases hlt : pos < s.size
  ·have hw := decode_width s pos
   have hn := run_next_str (P := Tryz.prog) 0 hit hlt
   have hb2 : Below w.heap.size w (setIter wr w.heap.size s (pos + (Utf8.decode s pos).2)) := hbl.trans ((setIter_only wr w.heap.size s _).low (fun g hg => by omega) (by omega))
   have hi2 := setIter_at (s := s) (pos := pos + (Utf8.decode s pos).2) hg
   have hpos' : pos + (Utf8.decode s pos).2 ≤ s.size := decode_fits s pos hlt
   obtain ⟨c, wd, hd⟩ : ∃ c wd, Utf8.decode s pos = (c, wd) := ⟨_, _, rfl⟩
   rw [hd] at hn hb2 hi2 hpos' hw
   dsimp only at hn hb2 hi2 hpos' hw
   have HD := jh hd; clear hd
   have hsz : w.heap.size < (setIter wr w.heap.size s (pos + wd)).heap.size := by simpa [setIter] using hg
   generalize setIter wr w.heap.size s (pos + wd) = w2 at *
   have HI := jh hi2; have HIT := jh hit; clear hi2 hit
   by_cases hm1 : (k : Int) + 1 ≤ most
   ·have hm2 : decide (most < (k : Int) + 1) = false := by simp; omega
    cases hp : p c with
    | true =>
      have HP := jh hp; clear hp
      go_wp2_with fail
      refine (HF.out _ _).mono ?_
      rintro e w' ⟨rfl, rfl⟩
      rw [HP.out]
      go_wp2
      go_roundw
      case rel => exact ⟨k + 1, f, pos + wd, by omega, by go_num, hpos', by omega, HI.out, hb2, by rw [← HE.out, everyFrom_yes HD.out hlt hm1 HP.out]; rfl⟩
      case measure => rw [HI.out, HIT.out]; dsimp only; omega
    | false =>
      have HP := jh hp; clear hp
      go_wp2_with fail
      refine (HF.out _ _).mono ?_
      rintro e w' ⟨rfl, rfl⟩
      rw [HP.out]
      go_wp2
      go_ret
      exact ⟨ret_bool (by unfold everyB; rw [← HE.out, everyFrom_no HD.out hlt (.inr HP.out)]; rfl), hb2⟩
   ·have hm2 : decide (most < (k : Int) + 1) = true := by simp; omega
    go_wp2
    go_ret
    exact ⟨ret_bool (by unfold everyB; rw [← HE.out, everyFrom_no HD.out hlt (.inl (by omega))]; rfl), hb2⟩
  ·have hn := run_next_str_end (P := Tryz.prog) 0 hit hlt
   clear hit
   go_wp2_with fail
   refine (HV.out _ (hT.below hbl)).mono ?_
   rintro e w' ⟨rfl, hbb⟩
   go_wp2
   go_ret
   exact ⟨ret_bool (by unfold everyB; rw [← HE.out, everyFrom_end hlt]; rfl), hbl.tr hbb⟩
theorem name_any (s : Str) (w : World) (hs : s.size ≤ 9223372036854775807) (hT : Tabs w)
 (hV : ∀ w, Tabs w → Calls Tryz.prog 292 #[.string s] w fun e w' => e = .returned (.bool (validB s)) ∧ Below w.heap.size w w') :
  Calls Tryz.prog 229 #[.string s] w fun e w' => e = .returned (.bool (nameB s)) ∧ Below w.heap.size w w' := by
 have C := jh (fun w hT => every_any 289 namedB named_any s 40 w hs (by omega) hT (Go.Proofs.enters_of Tryz.func289 (by kernel_rfl) rfl) hV)
 clear hV
 cases he : s.toList.isEmpty with
 | true =>
   have HE := jh he
   have hn : (!s.toList.isEmpty) = false := by rw [he]; rfl
   go_enter Tryz.func229, Tryz.ntmps229
   go_wp2
   go_ret
   exact ⟨ret_bool (by unfold nameB; rw [HE.out]; rfl), jb _ _⟩
 | false =>
   have HE := jh he
   have hn : (!s.toList.isEmpty) = true := by rw [he]; rfl
   go_enter Tryz.func229, Tryz.ntmps229
   go_wp2_with fail
   refine (C.out w hT).mono ?_
   rintro e w' ⟨rfl, hb⟩
   go_wp2
   go_ret
   exact ⟨ret_bool (by unfold nameB; rw [HE.out]; rfl), hb⟩
theorem key_any (s : Str) (w : World) (hs : s.size ≤ 9223372036854775807) (hT : Tabs w)
 (hV : ∀ w, Tabs w → Calls Tryz.prog 292 #[.string s] w fun e w' => e = .returned (.bool (validB s)) ∧ Below w.heap.size w w') :
  Calls Tryz.prog 275 #[.string s] w fun e w' => e = .returned (.bool (keyB s)) ∧ Below w.heap.size w w' := by
 have C := every_any 305 (fun c => !controlB c) keyRune_any s 40 w hs (by omega) hT (Go.Proofs.enters_of Tryz.func305 (by kernel_rfl) rfl) hV
 clear hV
 go_enter Tryz.func275, Tryz.ntmps275
 go_wp2_with fail
 refine C.mono ?_
 clear C
 rintro e w' ⟨rfl, hb⟩
 go_wp2
 go_ret
 exact ⟨rfl, hb⟩
end Go.Proofs.YtcmjgghkmdbphaaGreatDoor
namespace Go.Proofs
open Go.Shelf
def Tryz.laysValid_ren : Go.Shelf.Ren := ⟨fun | 196 => 321 | 259 => 337 | n => n, fun | 9 => 9 | 4 => 4 | 3 => 3 | 5 => 5 | 12 => 12 | 119 => 392 | 0 => 0 | 46 => 352 | 139 => 395 | 138 => 394 | 53 => 303 | n => n, fun | 3 => 0 | 4 => 1 | n => n⟩
theorem Tryz.laysValid : Go.Proofs.Lays.n196 Tryz.prog Tryz.laysValid_ren := {
 mixed := by kernel_rfl
 f196 := Tryz.func321.trans (congrArg some (by kernel_rfl))
 f259 := Tryz.func337.trans (congrArg some (by kernel_rfl))
 t0 := Tryz.underlying0
 a0 := Tryz.isAgg0
 z0 := Tryz.sizeOf0
 v0 := Tryz.zeroValue0
 t3 := Tryz.underlying3
 a3 := Tryz.isAgg3
 z3 := Tryz.sizeOf3
 v3 := Tryz.zeroValue3
 t4 := Tryz.underlying4
 a4 := Tryz.isAgg4
 z4 := Tryz.sizeOf4
 v4 := Tryz.zeroValue4
 t5 := Tryz.underlying5
 a5 := Tryz.isAgg5
 z5 := Tryz.sizeOf5
 v5 := Tryz.zeroValue5
 t9 := Tryz.underlying9
 a9 := Tryz.isAgg9
 z9 := Tryz.sizeOf9
 v9 := Tryz.zeroValue9
 t12 := Tryz.underlying12
 a12 := Tryz.isAgg12
 z12 := Tryz.sizeOf12
 v12 := Tryz.zeroValue12
 t46 := Tryz.underlying352
 a46 := Tryz.isAgg352
 z46 := Tryz.sizeOf352
 v46 := Tryz.zeroValue352
 t53 := Tryz.underlying303
 a53 := Tryz.isAgg303
 z53 := Tryz.sizeOf303
 v53 := Tryz.zeroValue303
 t119 := Tryz.underlying392
 a119 := Tryz.isAgg392
 z119 := Tryz.sizeOf392
 t138 := Tryz.underlying394
 a138 := Tryz.isAgg394
 z138 := Tryz.sizeOf394
 v138 := Tryz.zeroValue394
 t139 := Tryz.underlying395
 a139 := Tryz.isAgg395
 z139 := Tryz.sizeOf395
 v139 := Tryz.zeroValue395
 g3 := by kernel_rfl
 g4 := by kernel_rfl }
end Go.Proofs
namespace Go.Proofs.YtcmjgghkmdbphaaGreatDoor
open Go.RowKit
theorem valid_any (s : Str) (w : World) (hs : s.size ≤ 9223372036854775807) (hT : Tabs w) :
 Calls Tryz.prog 292 #[.string s] w fun e w' => e = .returned (.bool (validB s)) ∧ Below w.heap.size w w' := by
 have C : Calls Tryz.prog 321 #[.string s] w _ := Any.utf8_ValidString Tryz.laysValid s w hs hT
 go_enter Tryz.func292, Tryz.ntmps292
 go_wp2_with fail
 refine C.mono ?_
 clear C
 rintro e w' ⟨rfl, hb⟩
 go_wp2
 go_ret
 exact ⟨rfl, hb⟩
theorem nameF (s : Str) (w : World) (hs : s.size ≤ 9223372036854775807) (hT : Tabs w) : Calls Tryz.prog 229 #[.string s] w fun e w' => e = .returned (.bool (nameB s)) ∧ Below w.heap.size w w' :=
 name_any s w hs hT fun w hT => valid_any s w hs hT
theorem keyF (s : Str) (w : World) (hs : s.size ≤ 9223372036854775807) (hT : Tabs w) : Calls Tryz.prog 275 #[.string s] w fun e w' => e = .returned (.bool (keyB s)) ∧ Below w.heap.size w w' :=
 key_any s w hs hT fun w hT => valid_any s w hs hT
end Go.Proofs.YtcmjgghkmdbphaaGreatDoor
namespace Go.Proofs.YtcmjgghkmdbphaaGreatDoor
open Go.RowKit
def ByteR : Rep Value where
 size := 1
 rep _ _ cs u := cs = [u] ∧ u.oneCell' = true
 pos := by decide
 len h := by simp [h.1]
 one h := by intro v hv; rw [h.1] at hv; simp at hv; rw [hv]; exact h.2
 same h _ := h
 mono h _ := h
theorem byte_flat {w : World} {P : Nat → Prop} {xs : List Value} (h : ∀ u ∈ xs, u.oneCell' = true) : ByteR.flat w P xs xs := by
 refine ⟨xs.map fun u => [u], by induction xs with
  | nil => rfl
  | cons x l ih => simp [← ih (fun u hu => h u (by simp [hu]))], by simp, fun i cs a h1 h2 => ?_⟩
 rw [List.getElem?_map, h2] at h1
 simp at h1
 exact ⟨h1.symm, h a (List.mem_of_getElem? h2)⟩
def Bts (w : World) (base : Nat) (v : Value) (n : Nat) : Prop := ∃ l : List Value, l.length = n ∧ ByteR.Own w base 5 (fun g => base ≤ g) v l
theorem Bts.ext {w w' : World} {base n : Nat} {v : Value} (h : Bts w base v n) (hb : Below w.heap.size w w') : Bts w' base v n := by
 obtain ⟨l, hl, ho⟩ := h
 exact ⟨l, hl, ho.ext hb⟩
theorem Bts.form {w : World} {base n : Nat} {v : Value} (h : Bts w base v n) : ∃ A c, v = .slice A n c ∧ n ≤ c ∧ c ≤ 9223372036854775807 := by
 obtain ⟨l, rfl, ho⟩ := h
 exact ho.form
theorem Bts.lt {w : World} {base n : Nat} {v : Value} (h : Bts w base v n) : ∀ k, v.ownBlock = some k → base ≤ k ∧ k < w.heap.size := by
 obtain ⟨l, _, ho⟩ := h
 exact ho.lt
theorem Bts.nil_ (w : World) (base : Nat) : Bts w base (.slice none 0 0) 0 := ⟨[], rfl, Rep.Own.nil_⟩
theorem Bts.raw {w : World} {base n : Nat} {v : Value} (h : Bts w base v n) : ∃ xs, w.ownsRow base 5 1 v n xs ∧ ∀ u ∈ xs, u.oneCell' = true := by
 obtain ⟨l, rfl, xs, h1, h2⟩ := h
 exact ⟨xs, h1, h2.ones⟩
theorem Bts.of_raw {w : World} {base n : Nat} {v : Value} {xs : List Value} (h : w.ownsRow base 5 1 v n xs) (h1 : ∀ u ∈ xs, u.oneCell' = true) : Bts w base v n := by
 have hl : xs.length = n := by simpa using h.1
 exact ⟨xs, hl, xs, by rw [hl]; exact h, byte_flat h1⟩
theorem Bts.of_own {w : World} {base : Nat} {S : Nat → Prop} {v : Value} {l : List Value} (h : ByteR.Own w base 5 S v l) : Bts w base v l.length := by
 obtain ⟨xs, h1, h2⟩ := h
 exact Bts.of_raw h1 h2.ones
theorem Bts.base_ {w : World} {base base' n : Nat} {v : Value} (h : Bts w base v n) (hb : base' ≤ base) : Bts w base' v n := by
 obtain ⟨l, hl, xs, h1, h2⟩ := h
 exact ⟨l, hl, xs, h1.base_ (fun g hg => by have := (h1.lt g hg).1; omega), h2.mono fun g hg _ => ⟨by have := hg.1; omega, hg.2⟩⟩
theorem Bts.row {w : World} {base n c : Nat} {A : Option Addr} (h : Bts w base (.slice A n c) n) : ∃ l : List Value, l.length = n ∧ ByteR.Row w (fun g => base ≤ g) A l := by
 obtain ⟨l, rfl, ho⟩ := h
 exact ⟨l, rfl, ho.row fun _ h => h⟩
theorem byte_info : (Tryz.prog.info? 5).map (fun i => (i.zero, i.size, i.bytes)) = some (some (.int .u8 0), 1, 1) := by kernel_rfl
theorem wpList_append_bts {w : World} {ops : Array Oper} {rest : List Oper} {o : Oper} {a : Act} {Q' : Exit → Act → World → Prop} (hgd : o.guard = none) (s x : Operand)
 (ho : o.op = .call { callee := .builtin .append, args := #[s, x], argTypes := #[215, 215] })
 (base base' : Nat) (v : Value) (n : Nat) (hs : a.eval s = v) (hv : Bts w base v n) (r : Value) (m : Nat) (hx : a.eval x = r) (hr : Bts w base' r m) (hb : base ≤ base') (hne : ∀ g, base' ≤ g → some g ≠ v.ownBlock)
 (hl : n + m ≤ 100000000) (hbase : base ≤ w.heap.size)
 (h : ∀ v' w', Bts w' base v' (n + m) → Below base w w' → w.grownBy w' v.ownBlock → (v'.ownBlock = v.ownBlock ∨ v'.ownBlock = some w.heap.size) → wpList Tryz.prog ops Q' rest (a.put o.dst v') w') : wpList Tryz.prog ops Q' (o :: rest) a w := by
 obtain ⟨i0, hi0, hz0, hz1, hz2⟩ := info_parts byte_info
 obtain ⟨A, c, rfl, _⟩ := hr.form
 obtain ⟨lx, hlx, hrow⟩ := hr.row
 obtain ⟨l, rfl, hown⟩ := hv
 subst hlx
 refine wpList_append_rep (R := ByteR) w hgd s x 215 ho base 5 i0 _ 1 Tryz.underlying215 hi0 hz0 hz1 hz2 rfl v l (fun g => base ≤ g) hs hown _ A c lx hx hrow (fun g hg _ => ⟨Nat.le_trans hb hg, hne g hg⟩) (by simp only [maxLen]; omega) (by omega) hbase ?_
 intro v' w' h1 h2 h3 _ h5
 exact h v' w' ⟨_, by simp, h1⟩ h5 h2 h3
theorem strCells_one (s : ByteArray) : ∀ u ∈ Lib.strCells s, u.oneCell' = true := Lib.strCells_oneCell s
theorem wpList_append_text {w : World} {ops : Array Oper} {rest : List Oper} {o : Oper} {a : Act} {Q' : Exit → Act → World → Prop} (hgd : o.guard = none) (s x : Operand)
 (ho : o.op = .call { callee := .builtin .append, args := #[s, x], argTypes := #[215, 9] })
 (base : Nat) (v : Value) (n : Nat) (hs : a.eval s = v) (hv : Bts w base v n) (t : Str) (hx : a.eval x = .string t)
 (hl : n + t.size ≤ 100000000) (hbase : base ≤ w.heap.size)
 (h : ∀ v' w', Bts w' base v' (n + t.size) → Below base w w' → w.grownBy w' v.ownBlock → wpList Tryz.prog ops Q' rest (a.put o.dst v') w') : wpList Tryz.prog ops Q' (o :: rest) a w := by
 obtain ⟨i0, hi0, hz0, hz1, hz2⟩ := info_parts byte_info
 obtain ⟨xs, hown, h1⟩ := hv.raw
 refine Lib.wpList_append_own_string w hgd s x 215 9 ho base 5 i0 Tryz.underlying215 Tryz.underlying9 hi0 hz0 hz1 hz2 v n xs hs hown t hx (by simp only [maxLen]; omega) (by omega) hbase ?_
 intro v' w' h2 h3 _
 refine h v' w' (Bts.of_raw h2 fun u hu => ?_) ((jb base w).grown h3 hbase fun k hk => (hv.lt k hk).1) h3
 rcases List.mem_append.1 hu with h | h
 ·exact h1 u h
 ·exact strCells_one t u h
def GotBts (B lo hi : Nat) (e : Ending) (w' : World) : Prop := ∃ r n, e = .returned r ∧ Bts w' B r n ∧ lo ≤ n ∧ n ≤ hi
def limV : Nat → Int
 | 0 => 18446744073709551616
 | 1 => 144115188075855872
 | 2 => 1125899906842624
 | 3 => 8796093022208
 | 4 => 68719476736
 | 5 => 536870912
 | 6 => 4194304
 | 7 => 32768
 | 8 => 256
 | 9 => 2
 | _ => 0
theorem limV_step (k : Nat) (x : Int) (h : x < limV k) (h1 : 127 < x) : k ≤ 8 ∧ x / 128 < limV (k + 1) := by
 match k, h with
 | 0, h => simp only [limV] at h ⊢; omega
 | 1, h => simp only [limV] at h ⊢; omega
 | 2, h => simp only [limV] at h ⊢; omega
 | 3, h => simp only [limV] at h ⊢; omega
 | 4, h => simp only [limV] at h ⊢; omega
 | 5, h => simp only [limV] at h ⊢; omega
 | 6, h => simp only [limV] at h ⊢; omega
 | 7, h => simp only [limV] at h ⊢; omega
 | 8, h => simp only [limV] at h ⊢; omega
 | 9, h => simp only [limV] at h; omega
 | k + 10, h => simp only [limV] at h; omega
def vlen (v : Int) : Nat := 1 + (if 128 ≤ v then 1 else 0) + (if 16384 ≤ v then 1 else 0) + (if 2097152 ≤ v then 1 else 0) + (if 268435456 ≤ v then 1 else 0) + (if 34359738368 ≤ v then 1 else 0) + (if 4398046511104 ≤ v then 1 else 0) + (if 562949953421312 ≤ v then 1 else 0) + (if 72057594037927936 ≤ v then 1 else 0) + (if 9223372036854775808 ≤ v then 1 else 0)
theorem vlen_bd (v : Int) : 1 ≤ vlen v ∧ vlen v ≤ 10 := by
 have key : ∀ p : Prop, [Decidable p] → (if p then (1 : Nat) else 0) ≤ 1 := fun p _ => by split <;> omega
 have k1 := key (128 ≤ v); have k2 := key (16384 ≤ v); have k3 := key (2097152 ≤ v); have k4 := key (268435456 ≤ v); have k5 := key (34359738368 ≤ v)
 have k6 := key (4398046511104 ≤ v); have k7 := key (562949953421312 ≤ v); have k8 := key (72057594037927936 ≤ v); have k9 := key (9223372036854775808 ≤ v)
 unfold vlen
 generalize (if 128 ≤ v then (1 : Nat) else 0) = a1 at *
 generalize (if 16384 ≤ v then (1 : Nat) else 0) = a2 at *
 generalize (if 2097152 ≤ v then (1 : Nat) else 0) = a3 at *
 generalize (if 268435456 ≤ v then (1 : Nat) else 0) = a4 at *
 generalize (if 34359738368 ≤ v then (1 : Nat) else 0) = a5 at *
 generalize (if 4398046511104 ≤ v then (1 : Nat) else 0) = a6 at *
 generalize (if 562949953421312 ≤ v then (1 : Nat) else 0) = a7 at *
 generalize (if 72057594037927936 ≤ v then (1 : Nat) else 0) = a8 at *
 generalize (if 9223372036854775808 ≤ v then (1 : Nat) else 0) = a9 at *
 omega
theorem vlen_one {v : Int} (h : v ≤ 127) : vlen v = 1 := by
 unfold vlen
 rw [if_neg (by omega), if_neg (by omega), if_neg (by omega), if_neg (by omega), if_neg (by omega), if_neg (by omega), if_neg (by omega), if_neg (by omega), if_neg (by omega)]
theorem vlen_step {v : Int} (h : 127 < v) (h1 : v < limV 0) : vlen v = 1 + vlen (v / 128) := by
 simp only [limV] at h1
 have e1 : (16384 ≤ v) = (128 ≤ v / 128) := propext (by omega)
 have e2 : (2097152 ≤ v) = (16384 ≤ v / 128) := propext (by omega)
 have e3 : (268435456 ≤ v) = (2097152 ≤ v / 128) := propext (by omega)
 have e4 : (34359738368 ≤ v) = (268435456 ≤ v / 128) := propext (by omega)
 have e5 : (4398046511104 ≤ v) = (34359738368 ≤ v / 128) := propext (by omega)
 have e6 : (562949953421312 ≤ v) = (4398046511104 ≤ v / 128) := propext (by omega)
 have e7 : (72057594037927936 ≤ v) = (562949953421312 ≤ v / 128) := propext (by omega)
 have e8 : (9223372036854775808 ≤ v) = (72057594037927936 ≤ v / 128) := propext (by omega)
 unfold vlen
 rw [if_pos (show 128 ≤ v by omega), if_neg (show ¬ 9223372036854775808 ≤ v / 128 by omega)]
 simp only [e1, e2, e3, e4, e5, e6, e7, e8]
 omega
theorem GotBts.wide {B lo hi lo' hi' : Nat} {e : Ending} {w' : World} (h : GotBts B lo hi e w') (h1 : lo' ≤ lo) (h2 : hi ≤ hi') : GotBts B lo' hi' e w' := by
 obtain ⟨r, n, a, b, c, d⟩ := h
 exact ⟨r, n, a, b, by omega, by omega⟩
theorem varint_ex (v : Int) (w : World) (h0 : 0 ≤ v) (h1 : v < limV 0) :
 Calls Tryz.prog 290 #[.int .u64 v] w fun e w' => GotBts w.heap.size (vlen v) (vlen v) e w' ∧ Below w.heap.size w w' := by
 obtain ⟨i0, hi0, hz0, hz1, hz2⟩ := info_parts byte_info
 go_enter Tryz.func290, Tryz.ntmps290
 go_wp2
 go_loopw [0, 2] (fun x o wr => ∃ (n : Int) (l : List Value), x = .int .u64 n ∧ 0 ≤ n ∧ n < limV l.length ∧ l.length ≤ 9 ∧ ByteR.Own wr w.heap.size 5 (fun g => w.heap.size ≤ g) o l ∧ Below w.heap.size w wr ∧ Hid (vlen v = l.length + vlen n ∧ n < limV 0)) (fun x _ _ => (intOf x).toNat)
 case atStart => exact ⟨v, [], rfl, h0, h1, by simp, Rep.Own.nil_, jb _ _, jh ⟨by simp, h1⟩⟩
 case round =>
  obtain ⟨n, l, rfl, hn0, hn1, hl, ho, hbl, HV⟩ := hrel
  have HL := jh hn1; clear hn1
  have hsz := hbl.size
  by_cases hlt : 127 < n
  ·obtain ⟨hl8, hlim⟩ := limV_step _ _ HL.out hlt
   have HL2 := jh hlim; clear hlim
   have HV2 := jh (vlen_step hlt HV.out.2)
   go_wp2_with (at_builtin; refine wpList_append_new (R := ByteR) _ rfl (.tmp 5) (.tmp 9) _ rfl w.heap.size 5 i0 _ 1 Tryz.underlying215 hi0 hz0 hz1 hz2 rfl _ l (fun g => w.heap.size ≤ g) rfl ho (fun _ h => h) rfl (fun _ => False) _ ⟨rfl, rfl⟩ (fun _ h => h.elim) (by simp [maxLen]; omega) (by simp; omega) (by omega) ?_; intro v1 w1 ho1 hg1 hat1 hn1 hb1)
   go_roundw
   case rel => exact ⟨n / 128, _, rfl, by omega, by simpa using HL2.out, by simp; omega, ho1, hbl.trans hb1, jh ⟨by have q1 := HV.out.1; have q2 := HV2.out; rw [List.length_append, List.length_singleton]; omega, by have := HV.out.2; simp only [limV] at this ⊢; omega⟩⟩
   case measure => simp [intOf]; omega
  ·have HV2 := jh (vlen_one (show n ≤ 127 by omega))
   go_wp2_with (at_builtin; refine wpList_append_new (R := ByteR) _ rfl (.tmp 13) (.tmp 16) _ rfl w.heap.size 5 i0 _ 1 Tryz.underlying215 hi0 hz0 hz1 hz2 rfl _ l (fun g => w.heap.size ≤ g) rfl ho (fun _ h => h) rfl (fun _ => False) _ ⟨rfl, rfl⟩ (fun _ h => h.elim) (by simp [maxLen]; omega) (by simp; omega) (by omega) ?_; intro v1 w1 ho1 hg1 hat1 hn1 hb1)
   go_ret
   have q1 := HV.out.1
   have q2 := HV2.out
   exact ⟨⟨_, l.length + 1, rfl, ⟨_, by simp, ho1⟩, by omega, by omega⟩, hbl.trans hb1⟩
theorem varint_any (v : Int) (w : World) (h0 : 0 ≤ v) (h1 : v < limV 0) :
 Calls Tryz.prog 290 #[.int .u64 v] w fun e w' => GotBts w.heap.size 1 10 e w' ∧ Below w.heap.size w w' :=
 (varint_ex v w h0 h1).mono fun _ _ h => ⟨h.1.wide (vlen_bd v).1 (vlen_bd v).2, h.2⟩
theorem wrap_u64_bd (n : Int) : 0 ≤ IntKind.u64.wrap n ∧ IntKind.u64.wrap n < limV 0 := by
 rw [IntKind.wrap_u64]; simp only [limV]; omega
def zigI (n : Int) : Int := if 0 ≤ n then 2 * n else -2 * n - 1
theorem zigI_bd {n : Int} (h : i64 n) : 0 ≤ zigI n ∧ zigI n < limV 0 := by
 obtain ⟨h0, h1⟩ := h
 unfold zigI; simp only [limV]; split <;> omega
theorem xor_ones (b : Nat) (hb : b < 2 ^ 64) : b ^^^ (2 ^ 64 - 1) = 2 ^ 64 - 1 - b := by
 apply Nat.eq_of_testBit_eq
 intro i
 rw [Nat.testBit_xor, Nat.testBit_two_pow_sub_one, show 2 ^ 64 - 1 - b = 2 ^ 64 - (b + 1) by omega, Nat.testBit_two_pow_sub_succ hb]
 by_cases hi : i < 64
 ·simp [hi]
 ·have : b.testBit i = false := Nat.testBit_lt_two_pow (Nat.lt_of_lt_of_le hb (Nat.pow_le_pow_right (by decide) (by omega)))
  simp [hi, this]
theorem zig_eq {n : Int} (h0 : -9223372036854775808 ≤ n) (h1 : n ≤ 9223372036854775807) : bits BinOp.xor IntKind.u64 (IntKind.u64.wrap (IntKind.u64.wrap n * 2)) (IntKind.u64.wrap (n / 9223372036854775808)) = zigI n := by
 have e1 : IntKind.u64.wrap (IntKind.u64.wrap n * 2) = (((if 0 ≤ n then 2 * n else 2 * n + 18446744073709551616).toNat : Nat) : Int) := by
  rw [IntKind.wrap_u64, IntKind.wrap_u64]; split <;> omega
 by_cases hn : 0 ≤ n
 ·have e2 : IntKind.u64.wrap (n / 9223372036854775808) = ((0 : Nat) : Int) := by rw [IntKind.wrap_u64]; omega
  rw [e1, e2, if_pos hn, bits_xor_u64_nat _ _ (by omega) (by decide), Nat.xor_zero]
  unfold zigI; rw [if_pos hn]; omega
 ·have e2 : IntKind.u64.wrap (n / 9223372036854775808) = ((2 ^ 64 - 1 : Nat) : Int) := by rw [IntKind.wrap_u64]; omega
  rw [e1, e2, if_neg hn, bits_xor_u64_nat _ _ (by omega) (by decide), xor_ones _ (by omega)]
  unfold zigI; rw [if_neg hn]; omega
theorem zig_ex (n : Int) (w : World) (h : i64 n) : Calls Tryz.prog 235 #[.int .i64 n] w fun e w' => e = .returned (.int .u64 (zigI n)) ∧ w = w' := by
 obtain ⟨h0, h1⟩ := h
 have key : Calls Tryz.prog 235 #[.int .i64 n] w fun e w' => (∃ v, e = .returned (.int .u64 v) ∧ v = zigI n) ∧ w = w' := by
  go_enter Tryz.func235, Tryz.ntmps235
  go_wp2
  go_ret
  exact ⟨⟨_, rfl, zig_eq h0 h1⟩, rfl⟩
 refine key.mono ?_
 rintro e w' ⟨⟨v, rfl, rfl⟩, rfl⟩
 exact ⟨rfl, rfl⟩
theorem str_info : (Tryz.prog.info? 9).map (fun i => (i.zero, i.size, i.bytes)) = some (some (.string ⟨#[]⟩), 1, 16) := by kernel_rfl
theorem int_info : (Tryz.prog.info? 3).map (fun i => (i.zero, i.size, i.bytes)) = some (some (.int .i64 0), 1, 8) := by kernel_rfl
theorem event_info : (Tryz.prog.info? 202).map (fun i => (i.zero, i.size, i.bytes)) = some (some (.agg #[.string ⟨#[]⟩, .int .i64 0, .string ⟨#[]⟩, .int .i64 0, .int .i64 0, .int .i64 0, .int .i64 0]), 7, 72) := by kernel_rfl
theorem range_info : (Tryz.prog.info? 27).map (fun i => (i.zero, i.size, i.bytes)) = some (some (.agg #[.int .i64 0, .int .i64 0, .int .i64 0, .int .i64 0]), 4, 32) := by kernel_rfl
theorem put_info : (Tryz.prog.info? 69).map (fun i => (i.zero, i.size, i.bytes)) = some (some (.agg #[.string ⟨#[]⟩, .int .i64 0, .slice none 0 0]), 3, 48) := by kernel_rfl
def GotOwn {α : Type} (R : Rep α) (B e : Nat) (S : Nat → Prop) (l : List α) (en : Ending) (w' : World) : Prop := ∃ v, en = .returned v ∧ R.Own w' B e S v l
theorem cloneNil_byte (n c : Nat) (w : World) : Calls Tryz.prog 291 #[.slice none n c] w fun e w' => e = .returned (.slice none 0 0) ∧ w = w' := by
 have hq := fun (w : World) => Lib.run_eql_slice_nil (P := Tryz.prog) w 215 5 none n c 0 0 Tryz.underlying215
 go_enter Tryz.func291, Tryz.ntmps291
 go_wp2
 go_ret
 exact ⟨rfl, rfl⟩
theorem clone_byte (A : Option Addr) (c : Nat) (l : List Value) (Q : Nat → Prop) (w : World) (hr : ByteR.Row w Q A l) (hl : l.length ≤ 100000000) :
 Calls Tryz.prog 291 #[.slice A l.length c] w fun e w' => GotOwn ByteR w.heap.size 5 (fun g => w.heap.size ≤ g ∨ Q g) l e w' ∧ Below w.heap.size w w' := by
 obtain ⟨i0, hi0, hz0, hz1, hz2⟩ := info_parts byte_info
 have hq := fun (w : World) => Lib.run_eql_slice_nil (P := Tryz.prog) w 215 5 A l.length c 0 0 Tryz.underlying215
 cases A with
 | none =>
   have hn : l = [] := by
    rcases Nat.eq_zero_or_pos l.length with h | h
    ·exact List.eq_nil_of_length_eq_zero h
    ·obtain ⟨_, _, e, _⟩ := hr h; cases e
   subst hn
   refine (cloneNil_byte 0 c w).mono ?_
   rintro e w' ⟨rfl, rfl⟩
   exact ⟨⟨_, rfl, Rep.Own.nil_⟩, jb _ _⟩
 | some ad =>
   have hr1 : ByteR.Row (w.alloc (.cells #[] 5)) (fun g => Q g ∧ g < w.heap.size) (some ad) l := (hr.mono fun g h hl => ⟨h, hl⟩).ext ((jb _ _).al _)
   have ho : ByteR.Own (w.alloc (.cells #[] 5)) w.heap.size 5 (fun g => w.heap.size ≤ g ∨ Q g) (.slice (some ⟨w.heap.size, 0, none⟩) 0 0) [] := ⟨[], World.ownsRow_made w #[] 0 (Nat.le_refl _) (by decide) rfl, Rep.flat.nil_⟩
   have HR := jh hr1
   have HL := jh hl
   clear hr1 hr hl
   go_enter Tryz.func291, Tryz.ntmps291
   go_wp2_with (at_builtin; go_loud (refine wpList_append_rep (R := ByteR) _ rfl (.tmp 5) (.tmp 6) _ rfl w.heap.size 5 i0 _ 1 Tryz.underlying215 hi0 hz0 hz1 hz2 rfl (.slice (some ⟨w.heap.size, 0, none⟩) 0 0) [] (fun g => w.heap.size ≤ g ∨ Q g) rfl ho _ (some ad) c l rfl HR.out (fun g hg _ => ⟨.inr hg.1, fun h => by have h2 := hg.2; simp [Value.ownBlock] at h; omega⟩) (by have := HL.out; simp [maxLen]; omega) (by have := HL.out; simp; omega) (by simp) ?_); intro v1 w1 ho1 hg1 hat1 hn1 hb1)
   go_ret
   exact ⟨⟨_, rfl, ho1⟩, ((jb _ _).al _).trans hb1⟩
theorem cloneNil_string (n c : Nat) (w : World) : Calls Tryz.prog 227 #[.slice none n c] w fun e w' => e = .returned (.slice none 0 0) ∧ w = w' := by
 have hq := fun (w : World) => Lib.run_eql_slice_nil (P := Tryz.prog) w 67 9 none n c 0 0 Tryz.underlying67
 go_enter Tryz.func227, Tryz.ntmps227
 go_wp2
 go_ret
 exact ⟨rfl, rfl⟩
theorem clone_string (A : Option Addr) (c : Nat) (l : List Str) (Q : Nat → Prop) (w : World) (hr : StrR.Row w Q A l) (hl : l.length ≤ 100000000) :
 Calls Tryz.prog 227 #[.slice A l.length c] w fun e w' => GotOwn StrR w.heap.size 9 (fun g => w.heap.size ≤ g ∨ Q g) l e w' ∧ Below w.heap.size w w' := by
 obtain ⟨i0, hi0, hz0, hz1, hz2⟩ := info_parts str_info
 have hq := fun (w : World) => Lib.run_eql_slice_nil (P := Tryz.prog) w 67 9 A l.length c 0 0 Tryz.underlying67
 cases A with
 | none =>
   have hn : l = [] := by
    rcases Nat.eq_zero_or_pos l.length with h | h
    ·exact List.eq_nil_of_length_eq_zero h
    ·obtain ⟨_, _, e, _⟩ := hr h; cases e
   subst hn
   refine (cloneNil_string 0 c w).mono ?_
   rintro e w' ⟨rfl, rfl⟩
   exact ⟨⟨_, rfl, Rep.Own.nil_⟩, jb _ _⟩
 | some ad =>
   have hr1 : StrR.Row (w.alloc (.cells #[] 9)) (fun g => Q g ∧ g < w.heap.size) (some ad) l := (hr.mono fun g h hl => ⟨h, hl⟩).ext ((jb _ _).al _)
   have ho : StrR.Own (w.alloc (.cells #[] 9)) w.heap.size 9 (fun g => w.heap.size ≤ g ∨ Q g) (.slice (some ⟨w.heap.size, 0, none⟩) 0 0) [] := ⟨[], World.ownsRow_made w #[] 0 (Nat.le_refl _) (by decide) rfl, Rep.flat.nil_⟩
   have HR := jh hr1
   have HL := jh hl
   clear hr1 hr hl
   go_enter Tryz.func227, Tryz.ntmps227
   go_wp2_with (at_builtin; go_loud (refine wpList_append_rep (R := StrR) _ rfl (.tmp 5) (.tmp 6) _ rfl w.heap.size 9 i0 _ 16 Tryz.underlying67 hi0 hz0 hz1 hz2 rfl (.slice (some ⟨w.heap.size, 0, none⟩) 0 0) [] (fun g => w.heap.size ≤ g ∨ Q g) rfl ho _ (some ad) c l rfl HR.out (fun g hg _ => ⟨.inr hg.1, fun h => by have h2 := hg.2; simp [Value.ownBlock] at h; omega⟩) (by have := HL.out; simp [maxLen]; omega) (by have := HL.out; simp; omega) (by simp) ?_); intro v1 w1 ho1 hg1 hat1 hn1 hb1)
   go_ret
   exact ⟨⟨_, rfl, ho1⟩, ((jb _ _).al _).trans hb1⟩
theorem cloneNil_int (n c : Nat) (w : World) : Calls Tryz.prog 135 #[.slice none n c] w fun e w' => e = .returned (.slice none 0 0) ∧ w = w' := by
 have hq := fun (w : World) => Lib.run_eql_slice_nil (P := Tryz.prog) w 43 3 none n c 0 0 Tryz.underlying43
 go_enter Tryz.func135, Tryz.ntmps135
 go_wp2
 go_ret
 exact ⟨rfl, rfl⟩
theorem clone_int (A : Option Addr) (c : Nat) (l : List Int) (Q : Nat → Prop) (w : World) (hr : IntR.Row w Q A l) (hl : l.length ≤ 100000000) :
 Calls Tryz.prog 135 #[.slice A l.length c] w fun e w' => GotOwn IntR w.heap.size 3 (fun g => w.heap.size ≤ g ∨ Q g) l e w' ∧ Below w.heap.size w w' := by
 obtain ⟨i0, hi0, hz0, hz1, hz2⟩ := info_parts int_info
 have hq := fun (w : World) => Lib.run_eql_slice_nil (P := Tryz.prog) w 43 3 A l.length c 0 0 Tryz.underlying43
 cases A with
 | none =>
   have hn : l = [] := by
    rcases Nat.eq_zero_or_pos l.length with h | h
    ·exact List.eq_nil_of_length_eq_zero h
    ·obtain ⟨_, _, e, _⟩ := hr h; cases e
   subst hn
   refine (cloneNil_int 0 c w).mono ?_
   rintro e w' ⟨rfl, rfl⟩
   exact ⟨⟨_, rfl, Rep.Own.nil_⟩, jb _ _⟩
 | some ad =>
   have hr1 : IntR.Row (w.alloc (.cells #[] 3)) (fun g => Q g ∧ g < w.heap.size) (some ad) l := (hr.mono fun g h hl => ⟨h, hl⟩).ext ((jb _ _).al _)
   have ho : IntR.Own (w.alloc (.cells #[] 3)) w.heap.size 3 (fun g => w.heap.size ≤ g ∨ Q g) (.slice (some ⟨w.heap.size, 0, none⟩) 0 0) [] := ⟨[], World.ownsRow_made w #[] 0 (Nat.le_refl _) (by decide) rfl, Rep.flat.nil_⟩
   have HR := jh hr1
   have HL := jh hl
   clear hr1 hr hl
   go_enter Tryz.func135, Tryz.ntmps135
   go_wp2_with (at_builtin; go_loud (refine wpList_append_rep (R := IntR) _ rfl (.tmp 5) (.tmp 6) _ rfl w.heap.size 3 i0 _ 8 Tryz.underlying43 hi0 hz0 hz1 hz2 rfl (.slice (some ⟨w.heap.size, 0, none⟩) 0 0) [] (fun g => w.heap.size ≤ g ∨ Q g) rfl ho _ (some ad) c l rfl HR.out (fun g hg _ => ⟨.inr hg.1, fun h => by have h2 := hg.2; simp [Value.ownBlock] at h; omega⟩) (by have := HL.out; simp [maxLen]; omega) (by have := HL.out; simp; omega) (by simp) ?_); intro v1 w1 ho1 hg1 hat1 hn1 hb1)
   go_ret
   exact ⟨⟨_, rfl, ho1⟩, ((jb _ _).al _).trans hb1⟩
theorem cloneNil_Event (n c : Nat) (w : World) : Calls Tryz.prog 128 #[.slice none n c] w fun e w' => e = .returned (.slice none 0 0) ∧ w = w' := by
 have hq := fun (w : World) => Lib.run_eql_slice_nil (P := Tryz.prog) w 64 202 none n c 0 0 Tryz.underlying64
 go_enter Tryz.func128, Tryz.ntmps128
 go_wp2
 go_ret
 exact ⟨rfl, rfl⟩
theorem clone_Event (A : Option Addr) (c : Nat) (l : List Event) (Q : Nat → Prop) (w : World) (hr : EventR.Row w Q A l) (hl : l.length ≤ 100000000) :
 Calls Tryz.prog 128 #[.slice A l.length c] w fun e w' => GotOwn EventR w.heap.size 202 (fun g => w.heap.size ≤ g ∨ Q g) l e w' ∧ Below w.heap.size w w' := by
 obtain ⟨i0, hi0, hz0, hz1, hz2⟩ := info_parts event_info
 have hq := fun (w : World) => Lib.run_eql_slice_nil (P := Tryz.prog) w 64 202 A l.length c 0 0 Tryz.underlying64
 cases A with
 | none =>
   have hn : l = [] := by
    rcases Nat.eq_zero_or_pos l.length with h | h
    ·exact List.eq_nil_of_length_eq_zero h
    ·obtain ⟨_, _, e, _⟩ := hr h; cases e
   subst hn
   refine (cloneNil_Event 0 c w).mono ?_
   rintro e w' ⟨rfl, rfl⟩
   exact ⟨⟨_, rfl, Rep.Own.nil_⟩, jb _ _⟩
 | some ad =>
   have hr1 : EventR.Row (w.alloc (.cells #[] 202)) (fun g => Q g ∧ g < w.heap.size) (some ad) l := (hr.mono fun g h hl => ⟨h, hl⟩).ext ((jb _ _).al _)
   have ho : EventR.Own (w.alloc (.cells #[] 202)) w.heap.size 202 (fun g => w.heap.size ≤ g ∨ Q g) (.slice (some ⟨w.heap.size, 0, none⟩) 0 0) [] := ⟨[], World.ownsRow_made w #[] 0 (Nat.le_refl _) (by decide) rfl, Rep.flat.nil_⟩
   have HR := jh hr1
   have HL := jh hl
   clear hr1 hr hl
   go_enter Tryz.func128, Tryz.ntmps128
   go_wp2_with (at_builtin; go_loud (refine wpList_append_rep (R := EventR) _ rfl (.tmp 5) (.tmp 6) _ rfl w.heap.size 202 i0 _ 72 Tryz.underlying64 hi0 hz0 hz1 hz2 rfl (.slice (some ⟨w.heap.size, 0, none⟩) 0 0) [] (fun g => w.heap.size ≤ g ∨ Q g) rfl ho _ (some ad) c l rfl HR.out (fun g hg _ => ⟨.inr hg.1, fun h => by have h2 := hg.2; simp [Value.ownBlock] at h; omega⟩) (by have := HL.out; simp [maxLen]; omega) (by have := HL.out; simp; omega) (by simp) ?_); intro v1 w1 ho1 hg1 hat1 hn1 hb1)
   go_ret
   exact ⟨⟨_, rfl, ho1⟩, ((jb _ _).al _).trans hb1⟩
theorem cloneNil_Range (n c : Nat) (w : World) : Calls Tryz.prog 129 #[.slice none n c] w fun e w' => e = .returned (.slice none 0 0) ∧ w = w' := by
 have hq := fun (w : World) => Lib.run_eql_slice_nil (P := Tryz.prog) w 58 27 none n c 0 0 Tryz.underlying58
 go_enter Tryz.func129, Tryz.ntmps129
 go_wp2
 go_ret
 exact ⟨rfl, rfl⟩
theorem clone_Range (A : Option Addr) (c : Nat) (l : List Range) (Q : Nat → Prop) (w : World) (hr : RangeR.Row w Q A l) (hl : l.length ≤ 100000000) :
 Calls Tryz.prog 129 #[.slice A l.length c] w fun e w' => GotOwn RangeR w.heap.size 27 (fun g => w.heap.size ≤ g ∨ Q g) l e w' ∧ Below w.heap.size w w' := by
 obtain ⟨i0, hi0, hz0, hz1, hz2⟩ := info_parts range_info
 have hq := fun (w : World) => Lib.run_eql_slice_nil (P := Tryz.prog) w 58 27 A l.length c 0 0 Tryz.underlying58
 cases A with
 | none =>
   have hn : l = [] := by
    rcases Nat.eq_zero_or_pos l.length with h | h
    ·exact List.eq_nil_of_length_eq_zero h
    ·obtain ⟨_, _, e, _⟩ := hr h; cases e
   subst hn
   refine (cloneNil_Range 0 c w).mono ?_
   rintro e w' ⟨rfl, rfl⟩
   exact ⟨⟨_, rfl, Rep.Own.nil_⟩, jb _ _⟩
 | some ad =>
   have hr1 : RangeR.Row (w.alloc (.cells #[] 27)) (fun g => Q g ∧ g < w.heap.size) (some ad) l := (hr.mono fun g h hl => ⟨h, hl⟩).ext ((jb _ _).al _)
   have ho : RangeR.Own (w.alloc (.cells #[] 27)) w.heap.size 27 (fun g => w.heap.size ≤ g ∨ Q g) (.slice (some ⟨w.heap.size, 0, none⟩) 0 0) [] := ⟨[], World.ownsRow_made w #[] 0 (Nat.le_refl _) (by decide) rfl, Rep.flat.nil_⟩
   have HR := jh hr1
   have HL := jh hl
   clear hr1 hr hl
   go_enter Tryz.func129, Tryz.ntmps129
   go_wp2_with (at_builtin; go_loud (refine wpList_append_rep (R := RangeR) _ rfl (.tmp 5) (.tmp 6) _ rfl w.heap.size 27 i0 _ 32 Tryz.underlying58 hi0 hz0 hz1 hz2 rfl (.slice (some ⟨w.heap.size, 0, none⟩) 0 0) [] (fun g => w.heap.size ≤ g ∨ Q g) rfl ho _ (some ad) c l rfl HR.out (fun g hg _ => ⟨.inr hg.1, fun h => by have h2 := hg.2; simp [Value.ownBlock] at h; omega⟩) (by have := HL.out; simp [maxLen]; omega) (by have := HL.out; simp; omega) (by simp) ?_); intro v1 w1 ho1 hg1 hat1 hn1 hb1)
   go_ret
   exact ⟨⟨_, rfl, ho1⟩, ((jb _ _).al _).trans hb1⟩
theorem cloneNil_Put (n c : Nat) (w : World) : Calls Tryz.prog 226 #[.slice none n c] w fun e w' => e = .returned (.slice none 0 0) ∧ w = w' := by
 have hq := fun (w : World) => Lib.run_eql_slice_nil (P := Tryz.prog) w 23 69 none n c 0 0 Tryz.underlying23
 go_enter Tryz.func226, Tryz.ntmps226
 go_wp2
 go_ret
 exact ⟨rfl, rfl⟩
theorem clone_Put (A : Option Addr) (c : Nat) (l : List Put) (Q : Nat → Prop) (w : World) (hr : PutR.Row w Q A l) (hl : l.length ≤ 100000000) :
 Calls Tryz.prog 226 #[.slice A l.length c] w fun e w' => GotOwn PutR w.heap.size 69 (fun g => w.heap.size ≤ g ∨ Q g) l e w' ∧ Below w.heap.size w w' := by
 obtain ⟨i0, hi0, hz0, hz1, hz2⟩ := info_parts put_info
 have hq := fun (w : World) => Lib.run_eql_slice_nil (P := Tryz.prog) w 23 69 A l.length c 0 0 Tryz.underlying23
 cases A with
 | none =>
   have hn : l = [] := by
    rcases Nat.eq_zero_or_pos l.length with h | h
    ·exact List.eq_nil_of_length_eq_zero h
    ·obtain ⟨_, _, e, _⟩ := hr h; cases e
   subst hn
   refine (cloneNil_Put 0 c w).mono ?_
   rintro e w' ⟨rfl, rfl⟩
   exact ⟨⟨_, rfl, Rep.Own.nil_⟩, jb _ _⟩
 | some ad =>
   have hr1 : PutR.Row (w.alloc (.cells #[] 69)) (fun g => Q g ∧ g < w.heap.size) (some ad) l := (hr.mono fun g h hl => ⟨h, hl⟩).ext ((jb _ _).al _)
   have ho : PutR.Own (w.alloc (.cells #[] 69)) w.heap.size 69 (fun g => w.heap.size ≤ g ∨ Q g) (.slice (some ⟨w.heap.size, 0, none⟩) 0 0) [] := ⟨[], World.ownsRow_made w #[] 0 (Nat.le_refl _) (by decide) rfl, Rep.flat.nil_⟩
   have HR := jh hr1
   have HL := jh hl
   clear hr1 hr hl
   go_enter Tryz.func226, Tryz.ntmps226
   go_wp2_with (at_builtin; go_loud (refine wpList_append_rep (R := PutR) _ rfl (.tmp 5) (.tmp 6) _ rfl w.heap.size 69 i0 _ 48 Tryz.underlying23 hi0 hz0 hz1 hz2 rfl (.slice (some ⟨w.heap.size, 0, none⟩) 0 0) [] (fun g => w.heap.size ≤ g ∨ Q g) rfl ho _ (some ad) c l rfl HR.out (fun g hg _ => ⟨.inr hg.1, fun h => by have h2 := hg.2; simp [Value.ownBlock] at h; omega⟩) (by have := HL.out; simp [maxLen]; omega) (by have := HL.out; simp; omega) (by simp) ?_); intro v1 w1 ho1 hg1 hat1 hn1 hb1)
   go_ret
   exact ⟨⟨_, rfl, ho1⟩, ((jb _ _).al _).trans hb1⟩
end Go.Proofs.YtcmjgghkmdbphaaGreatDoor
namespace Go.Proofs.YtcmjgghkmdbphaaGreatDoor
open Go.RowKit
theorem text_ex (v : Value) (n : Nat) (base : Nat) (s : Str) (w : World) (hv : Bts w base v n) (hl : n + s.size ≤ 90000000) :
 Calls Tryz.prog 231 #[v, .string s] w fun e w' => GotBts w.heap.size (n + (vlen s.size + s.size)) (n + (vlen s.size + s.size)) e w' ∧ Below w.heap.size w w' := by
 have HWS : Hid (IntKind.u64.wrap (s.size : Int) = s.size) := jh (by rw [IntKind.wrap_u64]; omega)
 obtain ⟨A, c, rfl, _⟩ := hv.form
 obtain ⟨l, hln, hrow⟩ := hv.row
 have C := clone_byte A c l _ w hrow (by omega)
 rw [hln] at C
 have HL := jh hl; clear hl
 have HN := jh hln; clear hln
 go_enter Tryz.func231, Tryz.ntmps231
 go_wp2_with fail
 refine C.mono ?_
 clear C
 rintro e w1 ⟨⟨v1, rfl, ho1⟩, hb1⟩
 have hv1 : Bts w1 w.heap.size v1 n := HN.out ▸ Bts.of_own ho1
 have hz1 := hb1.size
 have hlt1 := hv1.lt
 clear ho1
 go_wp2_with fail
 refine (varint_ex _ _ (wrap_u64_bd _).1 (wrap_u64_bd _).2).mono ?_
 rintro e w2 ⟨⟨v2, k, rfl, hv2, hk1, hk2⟩, hb2⟩
 have hkb := vlen_bd (IntKind.u64.wrap (s.size : Int))
 have HK := jh (show k = vlen s.size by have h1 := HWS.out; rw [h1] at hk1 hk2; omega)
 have hk3 : k ≤ 10 := by omega
 clear hk1 hk2 hkb
 have hv1' := hv1.ext hb2
 have hz2 := hb2.size
 go_wp2_with (at_builtin; first
  | (refine wpList_append_bts rfl (.tmp 6) (.tmp 10) rfl w.heap.size w1.heap.size v1 n rfl hv1' v2 k rfl hv2 (by omega) (fun g hg h => by have := (hlt1 g h.symm).2; omega) (by have := HL.out; omega) (by omega) ?_; intro v3 w3 hv3 hb3 _ _)
  | (refine wpList_append_text rfl (.tmp 11) (.tmp 12) rfl w.heap.size _ (n + k) rfl (by assumption) s rfl (by have := HL.out; omega) (by have := (by assumption : Below w.heap.size w2 _).size; omega) ?_; intro v4 w4 hv4 hb4 _))
 go_ret
 have := HL.out
 have hkk := HK.out
 exact ⟨⟨_, _, rfl, hv4, by omega, by omega⟩, (((hb1.trans (hb2.mono hz1)).trans hb3)).trans hb4⟩
def U64R : Rep Int where
 size := 1
 rep _ _ cs n := cs = [.int .u64 n] ∧ 0 ≤ n ∧ n < limV 0
 pos := by decide
 len h := by simp [h.1]
 one h := by simp [h.1, Value.oneCell']
 same h _ := h
 mono h _ := h
def Near (w : World) (v r : Value) : Prop := ∀ g, r.ownBlock = some g → v.ownBlock = some g ∨ w.heap.size ≤ g
theorem Near.refl (w : World) (v : Value) : Near w v v := fun _ h => .inl h
theorem Near.step {w w1 : World} {v r r' : Value} (h : Near w v r) (hs : w.heap.size ≤ w1.heap.size) (h1 : r'.ownBlock = r.ownBlock ∨ r'.ownBlock = some w1.heap.size) : Near w v r' := by
 intro g hg
 rcases h1 with e | e
 ·exact h g (e ▸ hg)
 ·rw [e] at hg; injection hg with hg; exact .inr (by omega)
def GotMore (w : World) (v : Value) (B lo hi : Nat) (e : Ending) (w' : World) : Prop := ∃ r n, e = .returned r ∧ Bts w' B r n ∧ lo ≤ n ∧ n ≤ hi ∧ Near w v r
def sumV (l : List Int) : Nat := (l.map vlen).sum
theorem sumV_bd : ∀ l : List Int, l.length ≤ sumV l ∧ sumV l ≤ 10 * l.length
 | [] => by simp [sumV]
 | a :: l => by
   have h1 := sumV_bd l
   have h2 := vlen_bd a
   have e : sumV (a :: l) = vlen a + sumV l := by simp [sumV]
   rw [e, List.length_cons]; omega
theorem sumV_take {l : List Int} {k : Nat} (h : k < l.length) : sumV (l.take (k + 1)) = sumV (l.take k) + vlen l[k] := by
 unfold sumV; rw [take_snoc l k h, List.map_append, List.sum_append]; simp
theorem nums_ex (v : Value) (n base : Nat) (A : Option Addr) (c : Nat) (l : List Int) (Q : Nat → Prop) (w : World) (hv : Bts w base v n) (hr : U64R.Row w Q A l) (hl : n ≤ 90000000) (hl2 : l.length ≤ 100) (hb : base ≤ w.heap.size) (hd : ∀ g, Q g → some g ≠ v.ownBlock) :
 Calls Tryz.prog 230 #[v, .slice A l.length c] w fun e w' => GotMore w v base (n + sumV l) (n + sumV l) e w' ∧ Only (fun g => v.ownBlock = some g) w w' := by
 have HL := jh hl; clear hl
 have HR := jh hr; clear hr
 go_enter Tryz.func230, Tryz.ntmps230
 go_wp2
 go_loopw [0, 6, 9] (fun b _ i wr => ∃ (k m : Nat), k ≤ l.length ∧ i = .int .i64 k ∧ m ≤ n + 10 * k ∧ Bts wr base b m ∧ Near w v b ∧ Only (fun g => v.ownBlock = some g) w wr ∧ Hid (m = n + sumV (l.take k))) (fun _ _ i _ => l.length - (intOf i).toNat)
 case atStart => exact ⟨0, n, Nat.zero_le _, rfl, by omega, hv, Near.refl _ _, Only.refl _ _, jh (by simp [sumV])⟩
 case round =>
  obtain ⟨k, m, hk, rfl, hm2, hbv, hnr, hbl, HM⟩ := hrel
  have hsz := hbl.size
  by_cases hlt : k < l.length
  ·have HST := jh (sumV_take hlt)
   have hrow := HR.out.same (Same.of_only hbl fun g hq h => hd g hq h.symm) hbl.size
   obtain ⟨b, o, cs, hA, hQ, hbw, ⟨rfl, h0, h1⟩, hc⟩ := hrow.at_ (jg hlt)
   have hcc := hc 0 _ rfl
   simp only [U64R, Nat.mul_one, Nat.add_zero] at hcc
   have H1 := jh h1
   clear hc hrow h1
   subst hA
   have hlt' : (k : Int) < l.length := by omega
   have hlt1 := jh hbv.lt
   go_wp2_with fail
   refine (varint_ex _ _ h0 H1.out).mono ?_
   rintro e w2 ⟨⟨v2, j, rfl, hv2, hj1, hj2⟩, hb2⟩
   have hjb := vlen_bd l[k]
   have HJ := jh (show j = vlen l[k] by omega)
   have hj3 : j ≤ 10 := by omega
   clear hj1 hj2 hjb
   have hbv' := hbv.ext hb2
   have hz2 := hb2.size
   go_wp2_with (at_builtin; refine wpList_append_bts rfl (.tmp 13) (.tmp 15) rfl base wr.heap.size _ m rfl hbv' v2 j rfl hv2 (by omega) (fun g hg h => by have := (hlt1.out g h.symm).2; omega) (by have := HL.out; omega) (by omega) ?_; intro v3 w3 hv3 hb3 hg3 hat3)
   go_round
   case rel =>
    refine ⟨k + 1, m + j, by omega, by go_num, by omega, hv3, hnr.step (by omega) hat3, ?_, jh (by have q1 := HM.out; have q2 := HST.out; have q3 := HJ.out; omega)⟩
    refine (hbl.tr (jo hb2)).trans (G := fun g => u0.ownBlock = some g) (Only.grown hg3 (fun g hg => hg)) ?_
    intro g hg h
    rcases hnr g h with h | h
    ·exact h
    ·omega
   case measure => simp [intOf]; omega
  ·have HE : Hid (m = n + sumV l) := jh (by have q1 := HM.out; rw [show k = l.length by omega, List.take_length] at q1; exact q1)
   go_wp2
   go_ret
   have q1 := HE.out
   exact ⟨⟨_, m, rfl, hbv, by omega, by omega, hnr⟩, hbl⟩
def withinB (n m : Int) : Bool := decide (0 ≤ n) && decide (n ≤ m)
def soundB (s : Stamp) : Bool := withinB s.wall 1125899906842624 && (withinB s.logic 65535 && withinB s.node 5)
theorem within_any (n m : Int) (w : World) : Calls Tryz.prog 294 #[.int .i64 n, .int .i64 m] w fun e w' => e = .returned (.bool (withinB n m)) ∧ w = w' := by
 go_enter Tryz.func294, Tryz.ntmps294
 go_wp2
 all_goals (go_ret; go_light; refine ⟨ret_bool ?_, rfl⟩; unfold withinB; rw [Bool.eq_iff_iff]; simp at *; omega)
def Stamp.val (s : Stamp) : Value := .agg #[.int .i64 s.wall, .int .i64 s.logic, .int .i64 s.node]
attribute [local go_sem] Stamp.val
theorem sound_any (s : Stamp) (w : World) : Calls Tryz.prog 240 #[s.val] w fun e w' => e = .returned (.bool (soundB s)) ∧ Below w.heap.size w w' := by
 unfold Stamp.val
 cases h1 : withinB s.wall 1125899906842624 <;> cases h2 : withinB s.logic 65535 <;>
 ·have H1 := jh h1
  have H2 := jh h2
  go_enter Tryz.func240, Tryz.ntmps240
  go_wp2_with (go_at_call 294; refine (within_any _ _ _).mono ?_; rintro e w' ⟨rfl, rfl⟩)
  go_ret
  exact ⟨ret_bool (by unfold soundB; rw [H1.out, H2.out]; rfl), (jb _ _).al _⟩
def GotEnc (b : Bool) (B lo hi : Nat) (e : Ending) (w' : World) : Prop := if b = true then GotBts B lo hi e w' else e = .returned (.slice none 0 0)
theorem GotEnc.yes {B lo hi : Nat} {e : Ending} {w' : World} (h : GotBts B lo hi e w') : GotEnc true B lo hi e w' := by unfold GotEnc; rw [if_pos rfl]; exact h
theorem GotEnc.no {B lo hi : Nat} {e : Ending} {w' : World} (h : e = .returned (.slice none 0 0)) : GotEnc false B lo hi e w' := by unfold GotEnc; rw [if_neg (by simp)]; exact h
theorem GotEnc.out1 {B lo hi : Nat} {e : Ending} {w' : World} (h : GotEnc true B lo hi e w') : GotBts B lo hi e w' := by unfold GotEnc at h; rwa [if_pos rfl] at h
theorem GotEnc.out0 {B lo hi : Nat} {e : Ending} {w' : World} (h : GotEnc false B lo hi e w') : e = .returned (.slice none 0 0) := by unfold GotEnc at h; rwa [if_neg (by simp)] at h
def lenT (s : Stamp) : Nat := sumV [s.wall, s.logic, s.node]
theorem lenT_bd (s : Stamp) : 3 ≤ lenT s ∧ lenT s ≤ 30 := by have := sumV_bd [s.wall, s.logic, s.node]; simp at this; exact this
theorem soundB_in {s : Stamp} (h : soundB s = true) : (0 ≤ s.wall ∧ s.wall ≤ 1125899906842624) ∧ (0 ≤ s.logic ∧ s.logic ≤ 65535) ∧ 0 ≤ s.node ∧ s.node ≤ 5 := by
 simp only [soundB, withinB, Bool.and_eq_true, decide_eq_true_eq] at h; exact ⟨h.1, h.2.1, h.2.2⟩
theorem encode_ex (s : Stamp) (w : World) : Calls Tryz.prog 234 #[s.val] w fun e w' => GotEnc (soundB s) w.heap.size (lenT s) (lenT s) e w' ∧ Below w.heap.size w w' := by
 cases hs : soundB s with
 | false =>
   have HS := jh hs
   have C := sound_any s (w.alloc (.cells #[.int .i64 s.wall, .int .i64 s.logic, .int .i64 s.node] 40))
   rw [hs] at C
   unfold Stamp.val at C ⊢
   clear hs
   go_enter Tryz.func234, Tryz.ntmps234
   go_wp2_with fail
   refine C.mono ?_
   clear C
   rintro e w1 ⟨rfl, hb1⟩
   go_wp2
   go_ret
   exact ⟨.no rfl, (((jb _ _).al _).tr hb1)⟩
 | true =>
   have HS := jh hs
   have C := sound_any s (w.alloc (.cells #[.int .i64 s.wall, .int .i64 s.logic, .int .i64 s.node] 40))
   rw [hs] at C
   unfold Stamp.val at C ⊢
   clear hs
   have hsi := soundB_in HS.out
   have hwr : ∀ x : Int, 0 ≤ x → x ≤ 1125899906842624 → IntKind.u64.wrap x = x := fun x h1 h2 => by rw [IntKind.wrap_u64]; omega
   have hix : ∀ k : Nat, k < 3 → ∃ x : Int, (∀ w, (Instr.index 357 (.agg #[.int .i64 s.wall, .int .i64 s.logic, .int .i64 s.node]) (.int .i64 (k : Int))).run Tryz.prog w = .ok (.int .i64 x) w) ∧ Hid (IntKind.u64.wrap x = x ∧ sumV ([s.wall, s.logic, s.node].take (k + 1)) = sumV ([s.wall, s.logic, s.node].take k) + vlen x) := by
    intro k hk
    match k, hk with
    | 0, _ => exact ⟨s.wall, fun _ => by kernel_rfl, jh ⟨hwr _ (by omega) (by omega), sumV_take (l := [s.wall, s.logic, s.node]) (k := 0) (by simp)⟩⟩
    | 1, _ => exact ⟨s.logic, fun _ => by kernel_rfl, jh ⟨hwr _ (by omega) (by omega), sumV_take (l := [s.wall, s.logic, s.node]) (k := 1) (by simp)⟩⟩
    | 2, _ => exact ⟨s.node, fun _ => by kernel_rfl, jh ⟨hwr _ (by omega) (by omega), sumV_take (l := [s.wall, s.logic, s.node]) (k := 2) (by simp)⟩⟩
   clear hsi hwr
   have HIX := jh hix; clear hix
   go_enter Tryz.func234, Tryz.ntmps234
   go_wp2_with fail
   refine C.mono ?_
   clear C
   rintro e w1 ⟨rfl, hb1⟩
   obtain ⟨hc1, hf1⟩ := bcell hb1
   have hz1 := hb1.size
   simp only [World.size_alloc] at hz1
   go_wp2_with fail
   go_loopw [2, 4, 15] (fun b _ i wr => ∃ (k m : Nat), k ≤ 3 ∧ i = .int .i64 k ∧ m ≤ 10 * k ∧ Bts wr w.heap.size b m ∧ Below w.heap.size w wr ∧ Hid (m = sumV ([s.wall, s.logic, s.node].take k))) (fun _ _ i _ => 3 - (intOf i).toNat)
   case atStart => exact ⟨0, 0, by omega, rfl, by omega, Bts.nil_ _ _, ((jb _ _).al _).tr hb1, jh (by simp [sumV])⟩
   case round =>
    clear hc1 hf1 hb1
    obtain ⟨k, m, hk, rfl, hm2, hbv, hbl, HM⟩ := hrel
    have hsz := hbl.size
    by_cases hlt : k < 3
    ·obtain ⟨x, hx, HX⟩ := HIX.out k hlt
     have hlt' : (k : Int) < 3 := by omega
     have hlt1 := jh hbv.lt
     go_wp2_with fail
     refine (varint_ex _ _ (wrap_u64_bd _).1 (wrap_u64_bd _).2).mono ?_
     rintro e w2 ⟨⟨v2, j, rfl, hv2, hj1, hj2⟩, hb2⟩
     have hjb := vlen_bd (IntKind.u64.wrap x)
     have HJ := jh (show j = vlen x by have h1 := HX.out.1; rw [h1] at hj1 hj2; omega)
     have hj3 : j ≤ 10 := by omega
     clear hj1 hj2 hjb
     have hbv' := hbv.ext hb2
     have hz2 := hb2.size
     go_wp2_with (at_builtin; refine wpList_append_bts rfl (.tmp 18) (.tmp 21) rfl w.heap.size wr.heap.size _ m rfl hbv' v2 j rfl hv2 (by omega) (fun g hg h => by have := (hlt1.out g h.symm).2; omega) (by omega) (by omega) ?_; intro v3 w3 hv3 hb3 hg3 hat3)
     go_round
     case rel => exact ⟨k + 1, m + j, by omega, by go_num, by omega, hv3, (hbl.tr hb2).trans hb3, jh (by have q1 := HM.out; have q2 := HX.out.2; have q3 := HJ.out; omega)⟩
     case measure => simp [intOf]; omega
    ·have HE : Hid (m = lenT s) := jh (by have q1 := HM.out; rw [show k = 3 by omega] at q1; exact q1)
     go_wp2
     go_ret
     have q1 := HE.out
     exact ⟨.yes ⟨_, m, rfl, hbv, by omega, by omega⟩, hbl⟩
theorem GotEnc.wide {b : Bool} {B lo hi lo' hi' : Nat} {e : Ending} {w' : World} (h : GotEnc b B lo hi e w') (h1 : b = true → lo' ≤ lo) (h2 : b = true → hi ≤ hi') : GotEnc b B lo' hi' e w' := by
 cases b
 ·exact .no h.out0
 ·exact .yes (h.out1.wide (h1 rfl) (h2 rfl))
theorem encode_any (s : Stamp) (w : World) : Calls Tryz.prog 234 #[s.val] w fun e w' => GotEnc (soundB s) w.heap.size 3 30 e w' ∧ Below w.heap.size w w' :=
 (encode_ex s w).mono fun _ _ h => ⟨h.1.wide (fun _ => (lenT_bd s).1) (fun _ => (lenT_bd s).2), h.2⟩
end Go.Proofs.YtcmjgghkmdbphaaGreatDoor
