/- shell.Play of a text with too many lines or bytes. -/
import Derived.Test.YteooccaicheleaaGreatDoorProg
import Derived.Test.YteooccaicheleaaGreatDoorSs
import Derived.Test.YteooccaicheleaaGreatDoorSp
import Derived.Lib.Hide
import Derived.WalkKit
import Derived.ProofKit
namespace Go.Proofs.YteooccaicheleaaGreatDoor
open Go.Shelf Go.RowKit
theorem hi9 : (Tryz.prog.info? 9).map (fun i => (i.zero, i.size, i.bytes)) = some (some (.string ByteArray.empty), 1, 16) := by kernel_rfl
def nl : ByteArray := ⟨#[10]⟩
/-- The lines of a text. -/
def linesN (l : List UInt8) : Nat := l.count 10 + (if l = [] ∨ l.getLast? = some 10 then 0 else 1)
theorem split_any (s : ByteArray) (m : Int) (w : World) (hs : s.size < 4294967281) (hm : w.cell? ⟨0, 0, none⟩ = some (.int .i64 m)) :
    Calls Tryz.prog 51 #[.string s, .string nl] w fun e w' =>
      e = .returned (.slice (some ⟨w.heap.size, 0, none⟩) (Lib.countB s nl + 1) (Lib.countB s nl + 1)) ∧ w' = w.alloc (.cells ((Lib.splitB nl 0 (Lib.countB s nl) s).map Value.string).toArray 9) :=
  Any.strings_Split Tryz.laysSplit hi9 s nl m w hs hm (by decide)
theorem pieces (s : ByteArray) : ∃ (ps : List ByteArray) (z : ByteArray), Lib.splitB nl 0 (Lib.countB s nl) s = ps ++ [z] ∧ ps.length = s.data.toList.count 10 ∧ (z = ⟨#[]⟩ ↔ (s.data.toList = [] ∨ s.data.toList.getLast? = some 10)) := by
  have hl := Lib.splitB_all nl (by decide) 0 _ s rfl
  have hd := Lib.splitB_data nl 0 (Lib.countB s nl) s
  have h1 := X.split_last 10 s.data.toList
  have hc : Lib.countB s nl = s.data.toList.count 10 := Lib.count_one 10 s.data.toList
  generalize hL : Lib.splitB nl 0 (Lib.countB s nl) s = L at hl hd ⊢
  have hne : L ≠ [] := by intro e; rw [e] at hl; simp at hl
  refine ⟨L.dropLast, L.getLast hne, (List.dropLast_concat_getLast hne).symm, by rw [List.length_dropLast, hl, hc]; rfl, ?_⟩
  rw [← h1]
  have h2 : (Lib.splitK [10] 0 (Lib.count s.data.toList [10]) s.data.toList).getLast? = some (L.getLast hne).data.toList := by
    have e : Lib.splitK [10] 0 (Lib.count s.data.toList [10]) s.data.toList = L.map (·.data.toList) := hd.symm
    rw [e, List.getLast?_map, List.getLast?_eq_some_getLast hne]
    rfl
  rw [h2]
  constructor
  · intro h; rw [h]
  · intro h
    injection h with h
    generalize L.getLast hne = z at h
    obtain ⟨⟨zl⟩⟩ := z
    have : zl = [] := h
    rw [this]
set_option maxHeartbeats 1000000 in
set_option maxRecDepth 40000 in
theorem play_long (s : ByteArray) (m : Int) (w : World) (hs : s.size < 4294967281) (hm : w.cell? ⟨0, 0, none⟩ = some (.int .i64 m)) (hb : 262144 < s.size ∨ 10000 < linesN s.data.toList) :
    Calls Tryz.prog 20 #[.string s] w fun e w' => e = .returned (.string ⟨#[101, 114, 114, 111, 114, 32, 50, 10]⟩) ∧ Below w.heap.size w w' := by
  obtain ⟨ps, z, hps, hpl, hz⟩ := pieces s
  have hc : Lib.countB s nl = s.data.toList.count 10 := Lib.count_one 10 s.data.toList
  have hsp := split_any s m w hs hm
  rw [hps, hc, ← hpl] at hsp
  have hle : ps.length ≤ s.size := by
    rw [hpl]
    have := List.count_le_length (a := (10 : UInt8)) (l := s.data.toList)
    exact this
  by_cases hze : z = ⟨#[]⟩
  · have hlin : linesN s.data.toList = ps.length := by unfold linesN; rw [if_pos (hz.1 hze), hpl]; rfl
    rw [hlin] at hb
    subst hze
    clear hpl hc hps hz hlin
    go_enter Tryz.func20, Tryz.ntmps20
    go_wp2_with (go_at_call 51; refine hsp.mono ?_; rintro e w' ⟨rfl, rfl⟩)
    all_goals
      go_ret
      exact ⟨rfl, (Below.refl _ w).alloc (Nat.le_refl _) _⟩
  · have hlin : linesN s.data.toList = ps.length + 1 := by unfold linesN; rw [if_neg (fun h => hze (hz.2 h)), hpl]
    rw [hlin] at hb
    have hzf : z.toList.isEmpty = false := by
      cases he : z.toList.isEmpty with
      | false => rfl
      | true =>
        exfalso
        apply hze
        rw [List.isEmpty_iff, ByteArray.toList_eq] at he
        obtain ⟨⟨x⟩⟩ := z
        simp at he
        simp [he]
    clear hze
    have hL1 : ((ps ++ [z]).map Value.string).length = ps.length + 1 := by simp
    have hL2 : ((ps ++ [z]).map Value.string)[ps.length + 1 - 1]? = some (.string z) := by simp
    generalize (ps ++ [z]).map Value.string = L at hsp hL1 hL2
    have h1n : 1 ≤ ps.length + 1 := Nat.le_add_left 1 _
    have hle1 : ps.length + 1 ≤ s.size + 1 := by omega
    clear hpl hc hps hz hlin hle
    generalize ps.length + 1 = n at hsp hL1 hL2 h1n hle1 hb
    go_enter Tryz.func20, Tryz.ntmps20
    go_wp2_with (go_at_call 51; refine hsp.mono ?_; rintro e w' ⟨rfl, rfl⟩)
    all_goals
      go_ret
      exact ⟨rfl, (Below.refl _ w).alloc (Nat.le_refl _) _⟩
end Go.Proofs.YteooccaicheleaaGreatDoor
