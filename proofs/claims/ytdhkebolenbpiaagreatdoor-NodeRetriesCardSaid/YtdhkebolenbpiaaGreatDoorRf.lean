/- Whether a text may be a key. -/
import Derived.Test.YtdhkebolenbpiaaGreatDoorKmt
import Derived.Test.YtdhkebolenbpiaaGreatDoorSa
import Derived.Shelf.Unicode.ValidAny
import Derived.Deep.LoopGhost
import Derived.Shelf.Abstract
import Derived.WalkKit
import Derived.WalkSpells
import Derived.WalkLawsBesides
import Derived.Deep.RegionHeld3
import Derived.Deep.QuietTactic
import Derived.BigQuiet
namespace Go.Proofs.YtdhkebolenbpiaaGreatDoor
open Go.RowKit
theorem ret_bool {a b : Bool} (h : a = b) : Ending.returned (.bool a) = .returned (.bool b) := by rw [h]
def controlB (c : Int) : Bool := decide (c < 32) || c == 127
set_option maxHeartbeats 400000 in
theorem control_any (c : Int) (w : World) : Calls Tryz.prog 298 #[.int .i32 c] w fun e w' => e = .returned (.bool (controlB c)) ∧ w = w' := by
  go_enter Tryz.func298, Tryz.ntmps298
  go_wp2
  · go_ret
    exact ⟨ret_bool (by unfold controlB; simp [*]), rfl⟩
  · go_ret
    exact ⟨ret_bool (by unfold controlB; rw [decide_eq_true (by assumption)]; rfl), rfl⟩

set_option maxHeartbeats 400000 in
theorem keyRune_any (c : Int) (w : World) : Calls Tryz.prog 297 #[.int .i32 c] w fun e w' => e = .returned (.bool (!controlB c)) ∧ w = w' := by
  go_enter Tryz.func297, Tryz.ntmps297
  go_wp2_with (go_at_call 298; refine (control_any _ _).mono ?_; rintro e w' ⟨rfl, rfl⟩)
  go_ret
  exact ⟨rfl, rfl⟩

def validB (s : ByteArray) : Bool := Lib.validD s.data.toList
def everyFrom (p : Int → Bool) (most : Int) (s : ByteArray) : Nat → Nat → Int → Bool
  | 0, _, _ => true
  | f + 1, pos, n => if pos < s.size then (if n + 1 ≤ most && p (Utf8.decode s pos).1 then everyFrom p most s f (pos + (Utf8.decode s pos).2) (n + 1) else false) else true
def everyB (p : Int → Bool) (most : Int) (s : ByteArray) : Bool := everyFrom p most s (s.size + 1) 0 0 && validB s
def keyB (s : ByteArray) : Bool := everyB (fun c => !controlB c) 40 s

theorem decode_width (s : ByteArray) (i : Nat) : 1 ≤ (Utf8.decode s i).2 := by
  unfold Utf8.decode
  dsimp only
  repeat' split
  all_goals simp

theorem decode_fits (s : ByteArray) (i : Nat) (h : i < s.size) : i + (Utf8.decode s i).2 ≤ s.size := by
  unfold Utf8.decode
  dsimp only
  repeat' split
  all_goals simp_all
  all_goals omega

/-- The world with another place in a text. -/
def setIter (w : World) (g : Nat) (s : ByteArray) (pos : Nat) : World := { w with heap := w.heap.setIfInBounds g (.stringIter s pos) }
theorem setIter_at {w : World} {g : Nat} {s : ByteArray} {pos : Nat} (h : g < w.heap.size) : (setIter w g s pos).heap[g]? = some (.stringIter s pos) := by
  simp [setIter, h]
theorem setIter_below (w : World) (g : Nat) (s : ByteArray) (pos : Nat) {B : Nat} (h : B ≤ g) : Below B w (setIter w g s pos) :=
  ⟨rfl, rfl, rfl, by simp [setIter], fun k hk => by simp only [setIter, Array.getElem?_setIfInBounds]; rw [if_neg (by omega)]⟩
theorem run_next_str {P : Program} {w : World} {g : Nat} {s : ByteArray} {pos : Nat} (ty : TypeId) (hg : w.heap[g]? = some (.stringIter s pos)) (h : pos < s.size) :
    (Instr.next (.pointer (some ⟨g, 0, none⟩)) true ty).run P w = .ok (.tuple #[.bool true, .int .i64 pos, .int .i32 (Utf8.decode s pos).1]) (setIter w g s (pos + (Utf8.decode s pos).2)) := by
  simp [Instr.next, getObj, setObj, Sem.run, hg, h, setIter, goInt]
theorem run_next_str_end {P : Program} {w : World} {g : Nat} {s : ByteArray} {pos : Nat} (ty : TypeId) (hg : w.heap[g]? = some (.stringIter s pos)) (h : ¬ pos < s.size) :
    (Instr.next (.pointer (some ⟨g, 0, none⟩)) true ty).run P w = .ok (.tuple #[.bool false]) w := by
  simp [Instr.next, getObj, Sem.run, hg, h]

theorem Tabs.below {w w' : World} (h : Tabs w) (hb : Below w.heap.size w w') : Tabs w' := Utf8Tabs_below h hb

theorem everyFrom_yes {p : Int → Bool} {most : Int} {s : ByteArray} {f pos : Nat} {n : Int} {c : Nat} {wd : Nat} (hd : Utf8.decode s pos = (c, wd)) (hl : pos < s.size) (h1 : n + 1 ≤ most) (h2 : p c = true) : everyFrom p most s (f + 1) pos n = everyFrom p most s f (pos + wd) (n + 1) := by
  simp [everyFrom, hd, hl, h1, h2]
theorem everyFrom_no {p : Int → Bool} {most : Int} {s : ByteArray} {f pos : Nat} {n : Int} {c : Nat} {wd : Nat} (hd : Utf8.decode s pos = (c, wd)) (hl : pos < s.size) (h1 : ¬ n + 1 ≤ most ∨ p c = false) : everyFrom p most s (f + 1) pos n = false := by
  simp only [everyFrom, hd, if_pos hl]
  rcases h1 with h | h <;> simp [h]
theorem everyFrom_end {p : Int → Bool} {most : Int} {s : ByteArray} {f pos : Nat} {n : Int} (hl : ¬ pos < s.size) : everyFrom p most s (f + 1) pos n = true := by
  simp [everyFrom, hl]

set_option maxHeartbeats 1600000 in
theorem every_any (F : FuncId) (p : Int → Bool) (hF : ∀ (c : Int) (w : World), Calls Tryz.prog F #[.int .i32 c] w fun e w' => e = .returned (.bool (p c)) ∧ w = w') (s : ByteArray) (most : Int) (w : World) (_hs : s.size ≤ 9223372036854775807) (hm : 0 ≤ most ∧ most ≤ 100) (hT : Tabs w) (hent : ∀ args w, (callFunc F args).run Tryz.prog w = .ok (.enter F args) w)
   (hV : ∀ w, Tabs w → Calls Tryz.prog 296 #[.string s] w fun e w' => e = .returned (.bool (validB s)) ∧ Below w.heap.size w w') :
    Calls Tryz.prog 292 #[.string s, .int .i64 most, .func (.func F) #[] #[]] w fun e w' => e = .returned (.bool (everyB p most s)) ∧ Below w.heap.size w w' := by
  have HF := Lib.hid hF; clear hF
  have HV := Lib.hid hV; clear hV
  go_enter Tryz.func292, Tryz.ntmps292
  go_wp2
  go_loopw [7, 9] (fun n _ wr => ∃ (k f pos : Nat), (k : Int) ≤ most ∧ n = .int .i64 k ∧ pos ≤ s.size ∧ s.size < f + pos ∧ wr.heap[w.heap.size]? = some (.stringIter s pos) ∧ Below w.heap.size w wr ∧ everyFrom p most s f pos k = everyFrom p most s (s.size + 1) 0 0) (fun _ _ wr => match wr.heap[w.heap.size]? with | some (.stringIter s pos) => s.size - pos | _ => 0)
  case atStart => exact ⟨0, s.size + 1, 0, by omega, rfl, Nat.zero_le _, by omega, World.iter_heap _ _ _, (Below.refl _ _).alloc (Nat.le_refl _) _, rfl⟩
  case round =>
    obtain ⟨k, f, pos, hk, rfl, hpos, hf, hit, hbl, hev⟩ := hrel
    obtain ⟨f, rfl⟩ : ∃ f', f = f' + 1 := ⟨f - 1, by omega⟩
    have hg : w.heap.size < wr.heap.size := (Array.getElem?_eq_some_iff.1 hit).1
    have HE := Lib.hid hev; clear hev
    by_cases hlt : pos < s.size
    · have hw := decode_width s pos
      have hn := run_next_str (P := Tryz.prog) 0 hit hlt
      have hb2 : Below w.heap.size w (setIter wr w.heap.size s (pos + (Utf8.decode s pos).2)) := hbl.trans (setIter_below wr w.heap.size s _ (Nat.le_refl _))
      have hi2 := setIter_at (s := s) (pos := pos + (Utf8.decode s pos).2) hg
      have hpos' : pos + (Utf8.decode s pos).2 ≤ s.size := decode_fits s pos hlt
      obtain ⟨c, wd, hd⟩ : ∃ c wd, Utf8.decode s pos = (c, wd) := ⟨_, _, rfl⟩
      rw [hd] at hn hb2 hi2 hpos' hw
      dsimp only at hn hb2 hi2 hpos' hw
      have HD := Lib.hid hd; clear hd
      have hsz : w.heap.size < (setIter wr w.heap.size s (pos + wd)).heap.size := by simpa [setIter] using hg
      generalize setIter wr w.heap.size s (pos + wd) = w2 at *
      have HI := Lib.hid hi2; have HIT := Lib.hid hit; clear hi2 hit
      by_cases hm1 : (k : Int) + 1 ≤ most
      · have hm2 : decide (most < (k : Int) + 1) = false := by simp; omega
        cases hp : p c with
        | true =>
          have HP := Lib.hid hp; clear hp
          go_wp2_with fail
          refine (HF.out _ _).mono ?_
          rintro e w' ⟨rfl, rfl⟩
          rw [HP.out]
          go_wp2
          go_roundw
          case rel => exact ⟨k + 1, f, pos + wd, by omega, by go_num, hpos', by omega, HI.out, hb2, by rw [← HE.out, everyFrom_yes HD.out hlt hm1 HP.out]; rfl⟩
          case measure => rw [HI.out, HIT.out]; dsimp only; omega
        | false =>
          have HP := Lib.hid hp; clear hp
          go_wp2_with fail
          refine (HF.out _ _).mono ?_
          rintro e w' ⟨rfl, rfl⟩
          rw [HP.out]
          go_wp2
          go_ret
          exact ⟨ret_bool (by unfold everyB; rw [← HE.out, everyFrom_no HD.out hlt (.inr HP.out)]; rfl), hb2⟩
      · have hm2 : decide (most < (k : Int) + 1) = true := by simp; omega
        go_wp2
        go_ret
        exact ⟨ret_bool (by unfold everyB; rw [← HE.out, everyFrom_no HD.out hlt (.inl (by omega))]; rfl), hb2⟩
    · have hn := run_next_str_end (P := Tryz.prog) 0 hit hlt
      clear hit
      go_wp2_with fail
      refine (HV.out _ (hT.below hbl)).mono ?_
      rintro e w' ⟨rfl, hbb⟩
      go_wp2
      go_ret
      exact ⟨ret_bool (by unfold everyB; rw [← HE.out, everyFrom_end hlt]; rfl), hbl.trans (hbb.mono hbl.size)⟩

set_option maxHeartbeats 400000 in
theorem key_any (s : ByteArray) (w : World) (hs : s.size ≤ 9223372036854775807) (hT : Tabs w)
   (hV : ∀ w, Tabs w → Calls Tryz.prog 296 #[.string s] w fun e w' => e = .returned (.bool (validB s)) ∧ Below w.heap.size w w') :
    Calls Tryz.prog 212 #[.string s] w fun e w' => e = .returned (.bool (keyB s)) ∧ Below w.heap.size w w' := by
  have C := every_any 297 (fun c => !controlB c) keyRune_any s 40 w hs (by omega) hT (Go.Proofs.enters_of Tryz.func297 (by kernel_rfl) rfl) hV
  clear hV
  go_enter Tryz.func212, Tryz.ntmps212
  go_wp2_with fail
  refine C.mono ?_
  clear C
  rintro e w' ⟨rfl, hb⟩
  go_wp2
  go_ret
  exact ⟨rfl, hb⟩
set_option maxHeartbeats 400000 in
theorem valid_any (s : ByteArray) (w : World) (hs : s.size ≤ 9223372036854775807) (hT : Tabs w) :
    Calls Tryz.prog 296 #[.string s] w fun e w' => e = .returned (.bool (validB s)) ∧ Below w.heap.size w w' := by
  have C : Calls Tryz.prog 363 #[.string s] w _ := Any.utf8_ValidString Tryz.laysValid s w hs hT
  go_enter Tryz.func296, Tryz.ntmps296
  go_wp2_with fail
  refine C.mono ?_
  clear C
  rintro e w' ⟨rfl, hb⟩
  go_wp2
  go_ret
  exact ⟨rfl, hb⟩
theorem keyF (s : ByteArray) (w : World) (hs : s.size ≤ 9223372036854775807) (hT : Tabs w) : Calls Tryz.prog 212 #[.string s] w fun e w' => e = .returned (.bool (keyB s)) ∧ Below w.heap.size w w' :=
  key_any s w hs hT fun w hT => valid_any s w hs hT
end Go.Proofs.YtdhkebolenbpiaaGreatDoor
