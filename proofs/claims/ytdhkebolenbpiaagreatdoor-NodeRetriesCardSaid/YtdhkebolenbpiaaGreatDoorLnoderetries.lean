/- What the row of nodeRetries lists, as cells: each variable apart. -/
import Derived.Test.YtdhkebolenbpiaaGreatDoorProg
import Derived.Test.YtdhkebolenbpiaaGreatDoorFct
import Derived.KernelRfl
import Derived.Lay
import Derived.WideWitness
import Derived.Test.YtdhkebolenbpiaaGreatDoorRows
namespace Go.Proofs.YtdhkebolenbpiaaGreatDoor
def ersN : String := match (Rows.laid_strconv_ErrSyntax : DataW Unit) with | .iface s _ => s | _ => ""
def Lnmnoderetries (k : Nat) : String := match Rows.nodeRetriesRow.laid[k]? with | some p => p.1 | none => ""
end Go.Proofs.YtdhkebolenbpiaaGreatDoor
namespace Go.Proofs.YtdhkebolenbpiaaGreatDoor.Ers
open Go
set_option maxRecDepth 100000
noncomputable def isErr (u : Nat) : Bool := Tryz.prog.typeName? 3 u == some ersN
theorem e0 : (List.range' 0 75).all (fun u => !isErr u) = true := by kernel_rfl
theorem e1 : (List.range' 75 75).all (fun u => !isErr u) = true := by kernel_rfl
theorem e2 : (List.range' 150 75).all (fun u => !isErr u) = true := by kernel_rfl
theorem e3 : (List.range' 225 75).all (fun u => !isErr u) = true := by kernel_rfl
theorem e4 : (List.range' 300 75).all (fun u => !isErr u) = true := by kernel_rfl
theorem e5 : (List.range' 375 75).all (fun u => !isErr u) = true := by kernel_rfl
theorem e6 : (List.range' 450 75).all (fun u => !isErr u) = true := by kernel_rfl
theorem e7 : (List.range' 525 69).all (fun u => !isErr u) = true := by kernel_rfl
theorem at_ : isErr 594 = true := by kernel_rfl
theorem size : Tryz.prog.types.size = 653 := by kernel_rfl
theorem no {a m j : Nat} (h : (List.range' a m).all (fun u => !isErr u) = true) (h1 : a ≤ j) (h2 : j < a + m) : (!isErr j) = true := List.all_eq_true.1 h j (List.mem_range'.2 ⟨j - a, by omega, by omega⟩)
theorem below (j : Nat) (h : j < 594) : (!isErr j) = true := by
  by_cases h0 : j < 75
  · exact no e0 (by omega) (by omega)
  by_cases h1 : j < 150
  · exact no e1 (by omega) (by omega)
  by_cases h2 : j < 225
  · exact no e2 (by omega) (by omega)
  by_cases h3 : j < 300
  · exact no e3 (by omega) (by omega)
  by_cases h4 : j < 375
  · exact no e4 (by omega) (by omega)
  by_cases h5 : j < 450
  · exact no e5 (by omega) (by omega)
  by_cases h6 : j < 525
  · exact no e6 (by omega) (by omega)
  exact no e7 (by omega) (by omega)
theorem found : (List.range Tryz.prog.types.size).find? (fun u => Tryz.prog.typeName? 3 u == some ersN) = some 594 := by
  rw [size]
  exact List.find?_range_eq_some.2 ⟨at_, by simp, below⟩
theorem found' (s : String) (hs : ersN = s) : (List.range Tryz.prog.types.size).find? (fun u => Tryz.prog.typeName? 3 u == some s) = some 594 := by
  subst hs
  exact found
end Go.Proofs.YtdhkebolenbpiaaGreatDoor.Ers
namespace Go.Proofs.YtdhkebolenbpiaaGreatDoor.Lgn
open Go
section
variable {P : Program} {w w' : World} {l : List (String × DataW Unit)} {y : List (Nat × List Value) × List Obj}
theorem fits (h : Lay.layList P w.heap.size l = some y) (h1 : (y.1.map (·.1)).Nodup) (h2 : (y.1.all fun r => Lay.isRow w.heap.toList[r.1]?) = true) : w.layFits P l [] = true := by
  unfold World.layFits
  rw [h]
  dsimp only
  rw [decide_eq_true h1]
  simpa using h2
theorem ifaces (h : Lay.layList P w.heap.size l = some y) (h1 : (y.1.all fun r => r.2.all (Lay.okV P w')) = true) (h2 : y.2.all (Lay.okO P w') = true) : w.layIfaces P l w' = true := by
  unfold World.layIfaces
  rw [h]
  dsimp only
  rw [h1, h2]
  rfl
theorem vars (h : Lay.layList P w.heap.size l = some y) : w.layVars P l = { w with heap := ⟨Lay.setRows w.heap.toList y.1 ++ y.2⟩ } := by
  unfold World.layVars
  rw [h]
end
theorem size13 (os : Os) : (World.holding Tryz.prog os ⟨#[], #[], []⟩).heap.size = 12 := by unfold World.holding World.settled begin; rw [Fct.waiting_eq]; kernel_rfl
theorem at13 {l : List (String × DataW Unit)} {y : List (Nat × List Value) × List Obj} (h : Lay.layList Tryz.prog 12 l = some y) (os : Os) : Lay.layList Tryz.prog (World.holding Tryz.prog os ⟨#[], #[], []⟩).heap.size l = some y := by
  rw [size13]; exact h
theorem all_of {l : List (String × DataW Unit)} {y : List (Nat × List Value) × List Obj} (h : Lay.layList Tryz.prog 12 l = some y) (os : Os) :
    World.laidAll Tryz.prog os l = { World.holding Tryz.prog os ⟨#[], #[], []⟩ with heap := ⟨Lay.setRows (World.holding Tryz.prog os ⟨#[], #[], []⟩).heap.toList y.1 ++ y.2⟩ } := vars (at13 h os)
end Go.Proofs.YtdhkebolenbpiaaGreatDoor.Lgn
namespace Go.Proofs.YtdhkebolenbpiaaGreatDoor.LaynodeRetries
open Go
set_option maxRecDepth 100000
theorem step {P : Program} {n g : Nat} {gl : Global} {x : String × DataW Unit} {r : List (String × DataW Unit)} {y : List Value × List Obj} {z : List (Nat × List Value) × List Obj}
    (h1 : P.globalNamed x.1 = some g) (h2 : P.globals[g]? = some gl) (h3 : x.2.lay P gl.type n = some y) (h4 : Lay.layList P (n + y.2.length) r = some z) : Lay.layList P n (x :: r) = some ((g, y.1) :: z.1, y.2 ++ z.2) := by
  rw [Lay.layList, h1]
  dsimp only
  rw [h2]
  dsimp only
  rw [h3]
  dsimp only
  rw [h4]
def Y0 : List Value × List Obj := ([.int .u8 (0), .int .u8 (1), .int .u8 (28), .int .u8 (2), .int .u8 (29), .int .u8 (14), .int .u8 (24), .int .u8 (3), .int .u8 (30), .int .u8 (22), .int .u8 (20), .int .u8 (15), .int .u8 (25), .int .u8 (17), .int .u8 (4), .int .u8 (8), .int .u8 (31), .int .u8 (27), .int .u8 (13), .int .u8 (23), .int .u8 (21), .int .u8 (19), .int .u8 (16), .int .u8 (7), .int .u8 (26), .int .u8 (12), .int .u8 (18), .int .u8 (6), .int .u8 (11), .int .u8 (5), .int .u8 (10), .int .u8 (9)], [])
theorem v0 : (Rows.laid_math_bits_deBruijn32tab : DataW Unit).lay Tryz.prog 620 12 = some Y0 := by kernel_rfl
theorem n0 : Tryz.prog.globalNamed (Lnmnoderetries 0) = some 5 := by kernel_rfl
theorem t0 : (Tryz.prog.globals[5]?).map (·.type) = some 620 := by kernel_rfl
def Y1 : List Value × List Obj := ([.int .u8 (0), .int .u8 (1), .int .u8 (56), .int .u8 (2), .int .u8 (57), .int .u8 (49), .int .u8 (28), .int .u8 (3), .int .u8 (61), .int .u8 (58), .int .u8 (42), .int .u8 (50), .int .u8 (38), .int .u8 (29), .int .u8 (17), .int .u8 (4), .int .u8 (62), .int .u8 (47), .int .u8 (59), .int .u8 (36), .int .u8 (45), .int .u8 (43), .int .u8 (51), .int .u8 (22), .int .u8 (53), .int .u8 (39), .int .u8 (33), .int .u8 (30), .int .u8 (24), .int .u8 (18), .int .u8 (12), .int .u8 (5), .int .u8 (63), .int .u8 (55), .int .u8 (48), .int .u8 (27), .int .u8 (60), .int .u8 (41), .int .u8 (37), .int .u8 (16), .int .u8 (46), .int .u8 (35), .int .u8 (44), .int .u8 (21), .int .u8 (52), .int .u8 (32), .int .u8 (23), .int .u8 (11), .int .u8 (54), .int .u8 (26), .int .u8 (40), .int .u8 (15), .int .u8 (34), .int .u8 (20), .int .u8 (31), .int .u8 (10), .int .u8 (25), .int .u8 (14), .int .u8 (19), .int .u8 (9), .int .u8 (13), .int .u8 (8), .int .u8 (7), .int .u8 (6)], [])
theorem v1 : (Rows.laid_math_bits_deBruijn64tab : DataW Unit).lay Tryz.prog 621 12 = some Y1 := by kernel_rfl
theorem n1 : Tryz.prog.globalNamed (Lnmnoderetries 1) = some 6 := by kernel_rfl
theorem t1 : (Tryz.prog.globals[6]?).map (·.type) = some 621 := by kernel_rfl
def Y2 : List Value × List Obj := ([.int .u64 (1), .int .u64 (10), .int .u64 (100), .int .u64 (1000), .int .u64 (10000), .int .u64 (100000), .int .u64 (1000000), .int .u64 (10000000), .int .u64 (100000000), .int .u64 (1000000000), .int .u64 (10000000000), .int .u64 (100000000000), .int .u64 (1000000000000), .int .u64 (10000000000000), .int .u64 (100000000000000), .int .u64 (1000000000000000), .int .u64 (10000000000000000), .int .u64 (100000000000000000), .int .u64 (1000000000000000000), .int .u64 (10000000000000000000)], [])
theorem v2 : (Rows.laid_internal_strconv_uint64pow10 : DataW Unit).lay Tryz.prog 590 12 = some Y2 := by kernel_rfl
theorem n2 : Tryz.prog.globalNamed (Lnmnoderetries 2) = some 4 := by kernel_rfl
theorem t2 : (Tryz.prog.globals[4]?).map (·.type) = some 590 := by kernel_rfl
def Y3 : List Value × List Obj := ([.int .u8 (128), .int .u8 (191), .int .u8 (160), .int .u8 (191), .int .u8 (128), .int .u8 (159), .int .u8 (144), .int .u8 (191), .int .u8 (128), .int .u8 (143), .int .u8 (0), .int .u8 (0), .int .u8 (0), .int .u8 (0), .int .u8 (0), .int .u8 (0), .int .u8 (0), .int .u8 (0), .int .u8 (0), .int .u8 (0), .int .u8 (0), .int .u8 (0), .int .u8 (0), .int .u8 (0), .int .u8 (0), .int .u8 (0), .int .u8 (0), .int .u8 (0), .int .u8 (0), .int .u8 (0), .int .u8 (0), .int .u8 (0)], [])
theorem v3 : (Rows.laid_unicode_utf8_acceptRanges : DataW Unit).lay Tryz.prog 580 12 = some Y3 := by kernel_rfl
theorem n3 : Tryz.prog.globalNamed (Lnmnoderetries 3) = some 3 := by kernel_rfl
theorem t3 : (Tryz.prog.globals[3]?).map (·.type) = some 580 := by kernel_rfl
def Y4 : List Value × List Obj := ([.iface 594 (.pointer (some ⟨12,0,none⟩))], [.cells #[.string ⟨#[118, 97, 108, 117, 101, 32, 111, 117, 116, 32, 111, 102, 32, 114, 97, 110, 103, 101]⟩] 596 (0, 0)])
theorem v4 : (Rows.laid_strconv_ErrRange : DataW Unit).lay Tryz.prog 321 12 = some Y4 := by
  unfold Rows.laid_strconv_ErrRange
  rw [DataW.lay, Ers.found']
  · kernel_rfl
  · rfl
theorem n4 : Tryz.prog.globalNamed (Lnmnoderetries 4) = some 1 := by kernel_rfl
theorem t4 : (Tryz.prog.globals[1]?).map (·.type) = some 321 := by kernel_rfl
def Y5 : List Value × List Obj := ([.iface 594 (.pointer (some ⟨13,0,none⟩))], [.cells #[.string ⟨#[105, 110, 118, 97, 108, 105, 100, 32, 115, 121, 110, 116, 97, 120]⟩] 596 (0, 0)])
theorem v5 : (Rows.laid_strconv_ErrSyntax : DataW Unit).lay Tryz.prog 321 13 = some Y5 := by
  unfold Rows.laid_strconv_ErrSyntax
  rw [DataW.lay, Ers.found']
  · kernel_rfl
  · rfl
theorem n5 : Tryz.prog.globalNamed (Lnmnoderetries 5) = some 0 := by kernel_rfl
theorem t5 : (Tryz.prog.globals[0]?).map (·.type) = some 321 := by kernel_rfl
def Y6 : List Value × List Obj := ([.int .u8 (240), .int .u8 (240), .int .u8 (240), .int .u8 (240), .int .u8 (240), .int .u8 (240), .int .u8 (240), .int .u8 (240), .int .u8 (240), .int .u8 (240), .int .u8 (240), .int .u8 (240), .int .u8 (240), .int .u8 (240), .int .u8 (240), .int .u8 (240), .int .u8 (240), .int .u8 (240), .int .u8 (240), .int .u8 (240), .int .u8 (240), .int .u8 (240), .int .u8 (240), .int .u8 (240), .int .u8 (240), .int .u8 (240), .int .u8 (240), .int .u8 (240), .int .u8 (240), .int .u8 (240), .int .u8 (240), .int .u8 (240), .int .u8 (240), .int .u8 (240), .int .u8 (240), .int .u8 (240), .int .u8 (240), .int .u8 (240), .int .u8 (240), .int .u8 (240), .int .u8 (240), .int .u8 (240), .int .u8 (240), .int .u8 (240), .int .u8 (240), .int .u8 (240), .int .u8 (240), .int .u8 (240), .int .u8 (240), .int .u8 (240), .int .u8 (240), .int .u8 (240), .int .u8 (240), .int .u8 (240), .int .u8 (240), .int .u8 (240), .int .u8 (240), .int .u8 (240), .int .u8 (240), .int .u8 (240), .int .u8 (240), .int .u8 (240), .int .u8 (240), .int .u8 (240), .int .u8 (240), .int .u8 (240), .int .u8 (240), .int .u8 (240), .int .u8 (240), .int .u8 (240), .int .u8 (240), .int .u8 (240), .int .u8 (240), .int .u8 (240), .int .u8 (240), .int .u8 (240), .int .u8 (240), .int .u8 (240), .int .u8 (240), .int .u8 (240), .int .u8 (240), .int .u8 (240), .int .u8 (240), .int .u8 (240), .int .u8 (240), .int .u8 (240), .int .u8 (240), .int .u8 (240), .int .u8 (240), .int .u8 (240), .int .u8 (240), .int .u8 (240), .int .u8 (240), .int .u8 (240), .int .u8 (240), .int .u8 (240), .int .u8 (240), .int .u8 (240), .int .u8 (240), .int .u8 (240), .int .u8 (240), .int .u8 (240), .int .u8 (240), .int .u8 (240), .int .u8 (240), .int .u8 (240), .int .u8 (240), .int .u8 (240), .int .u8 (240), .int .u8 (240), .int .u8 (240), .int .u8 (240), .int .u8 (240), .int .u8 (240), .int .u8 (240), .int .u8 (240), .int .u8 (240), .int .u8 (240), .int .u8 (240), .int .u8 (240), .int .u8 (240), .int .u8 (240), .int .u8 (240), .int .u8 (240), .int .u8 (240), .int .u8 (240), .int .u8 (240), .int .u8 (240), .int .u8 (241), .int .u8 (241), .int .u8 (241), .int .u8 (241), .int .u8 (241), .int .u8 (241), .int .u8 (241), .int .u8 (241), .int .u8 (241), .int .u8 (241), .int .u8 (241), .int .u8 (241), .int .u8 (241), .int .u8 (241), .int .u8 (241), .int .u8 (241), .int .u8 (241), .int .u8 (241), .int .u8 (241), .int .u8 (241), .int .u8 (241), .int .u8 (241), .int .u8 (241), .int .u8 (241), .int .u8 (241), .int .u8 (241), .int .u8 (241), .int .u8 (241), .int .u8 (241), .int .u8 (241), .int .u8 (241), .int .u8 (241), .int .u8 (241), .int .u8 (241), .int .u8 (241), .int .u8 (241), .int .u8 (241), .int .u8 (241), .int .u8 (241), .int .u8 (241), .int .u8 (241), .int .u8 (241), .int .u8 (241), .int .u8 (241), .int .u8 (241), .int .u8 (241), .int .u8 (241), .int .u8 (241), .int .u8 (241), .int .u8 (241), .int .u8 (241), .int .u8 (241), .int .u8 (241), .int .u8 (241), .int .u8 (241), .int .u8 (241), .int .u8 (241), .int .u8 (241), .int .u8 (241), .int .u8 (241), .int .u8 (241), .int .u8 (241), .int .u8 (241), .int .u8 (241), .int .u8 (241), .int .u8 (241), .int .u8 (2), .int .u8 (2), .int .u8 (2), .int .u8 (2), .int .u8 (2), .int .u8 (2), .int .u8 (2), .int .u8 (2), .int .u8 (2), .int .u8 (2), .int .u8 (2), .int .u8 (2), .int .u8 (2), .int .u8 (2), .int .u8 (2), .int .u8 (2), .int .u8 (2), .int .u8 (2), .int .u8 (2), .int .u8 (2), .int .u8 (2), .int .u8 (2), .int .u8 (2), .int .u8 (2), .int .u8 (2), .int .u8 (2), .int .u8 (2), .int .u8 (2), .int .u8 (2), .int .u8 (2), .int .u8 (19), .int .u8 (3), .int .u8 (3), .int .u8 (3), .int .u8 (3), .int .u8 (3), .int .u8 (3), .int .u8 (3), .int .u8 (3), .int .u8 (3), .int .u8 (3), .int .u8 (3), .int .u8 (3), .int .u8 (35), .int .u8 (3), .int .u8 (3), .int .u8 (52), .int .u8 (4), .int .u8 (4), .int .u8 (4), .int .u8 (68), .int .u8 (241), .int .u8 (241), .int .u8 (241), .int .u8 (241), .int .u8 (241), .int .u8 (241), .int .u8 (241), .int .u8 (241), .int .u8 (241), .int .u8 (241), .int .u8 (241)], [])
theorem v6 : (Rows.laid_unicode_utf8_first : DataW Unit).lay Tryz.prog 577 14 = some Y6 := by kernel_rfl
theorem n6 : Tryz.prog.globalNamed (Lnmnoderetries 6) = some 2 := by kernel_rfl
theorem t6 : (Tryz.prog.globals[2]?).map (·.type) = some 577 := by kernel_rfl
theorem stepT {P : Program} {n g t m : Nat} {x : String × DataW Unit} {r : List (String × DataW Unit)} {y : List Value × List Obj} {z : List (Nat × List Value) × List Obj}
    (h1 : P.globalNamed x.1 = some g) (h2 : (P.globals[g]?).map (·.type) = some t) (h3 : x.2.lay P t n = some y) (hm : n + y.2.length = m) (h4 : Lay.layList P m r = some z) : Lay.layList P n (x :: r) = some ((g, y.1) :: z.1, y.2 ++ z.2) := by
  subst hm
  cases hg : P.globals[g]? with
  | none => rw [hg] at h2; cases h2
  | some gl =>
    rw [hg] at h2
    injection h2 with h2
    subst h2
    exact step h1 hg h3 h4
theorem l7 : Lay.layList Tryz.prog 14 [] = some ([], []) := rfl
theorem m6 : 14 + Y6.2.length = 14 := by kernel_rfl
theorem l6 : Lay.layList Tryz.prog 14 (((Lnmnoderetries 6), Rows.laid_unicode_utf8_first) :: []) = some ((2, Y6.1) :: [], Y6.2 ++ ([])) := stepT (P := Tryz.prog) (n := 14) (g := 2) (t := 577) (m := 14) (x := ((Lnmnoderetries 6), Rows.laid_unicode_utf8_first)) (y := Y6) (z := ([], [])) n6 t6 v6 m6 l7
theorem m5 : 13 + Y5.2.length = 14 := by kernel_rfl
theorem l5 : Lay.layList Tryz.prog 13 (((Lnmnoderetries 5), Rows.laid_strconv_ErrSyntax) :: ((Lnmnoderetries 6), Rows.laid_unicode_utf8_first) :: []) = some ((0, Y5.1) :: (2, Y6.1) :: [], Y5.2 ++ (Y6.2 ++ ([]))) := stepT (P := Tryz.prog) (n := 13) (g := 0) (t := 321) (m := 14) (x := ((Lnmnoderetries 5), Rows.laid_strconv_ErrSyntax)) (y := Y5) (z := ((2, Y6.1) :: [], Y6.2 ++ ([]))) n5 t5 v5 m5 l6
theorem m4 : 12 + Y4.2.length = 13 := by kernel_rfl
theorem l4 : Lay.layList Tryz.prog 12 (((Lnmnoderetries 4), Rows.laid_strconv_ErrRange) :: ((Lnmnoderetries 5), Rows.laid_strconv_ErrSyntax) :: ((Lnmnoderetries 6), Rows.laid_unicode_utf8_first) :: []) = some ((1, Y4.1) :: (0, Y5.1) :: (2, Y6.1) :: [], Y4.2 ++ (Y5.2 ++ (Y6.2 ++ ([])))) := stepT (P := Tryz.prog) (n := 12) (g := 1) (t := 321) (m := 13) (x := ((Lnmnoderetries 4), Rows.laid_strconv_ErrRange)) (y := Y4) (z := ((0, Y5.1) :: (2, Y6.1) :: [], Y5.2 ++ (Y6.2 ++ ([])))) n4 t4 v4 m4 l5
theorem m3 : 12 + Y3.2.length = 12 := by kernel_rfl
theorem l3 : Lay.layList Tryz.prog 12 (((Lnmnoderetries 3), Rows.laid_unicode_utf8_acceptRanges) :: ((Lnmnoderetries 4), Rows.laid_strconv_ErrRange) :: ((Lnmnoderetries 5), Rows.laid_strconv_ErrSyntax) :: ((Lnmnoderetries 6), Rows.laid_unicode_utf8_first) :: []) = some ((3, Y3.1) :: (1, Y4.1) :: (0, Y5.1) :: (2, Y6.1) :: [], Y3.2 ++ (Y4.2 ++ (Y5.2 ++ (Y6.2 ++ ([]))))) := stepT (P := Tryz.prog) (n := 12) (g := 3) (t := 580) (m := 12) (x := ((Lnmnoderetries 3), Rows.laid_unicode_utf8_acceptRanges)) (y := Y3) (z := ((1, Y4.1) :: (0, Y5.1) :: (2, Y6.1) :: [], Y4.2 ++ (Y5.2 ++ (Y6.2 ++ ([]))))) n3 t3 v3 m3 l4
theorem m2 : 12 + Y2.2.length = 12 := by kernel_rfl
theorem l2 : Lay.layList Tryz.prog 12 (((Lnmnoderetries 2), Rows.laid_internal_strconv_uint64pow10) :: ((Lnmnoderetries 3), Rows.laid_unicode_utf8_acceptRanges) :: ((Lnmnoderetries 4), Rows.laid_strconv_ErrRange) :: ((Lnmnoderetries 5), Rows.laid_strconv_ErrSyntax) :: ((Lnmnoderetries 6), Rows.laid_unicode_utf8_first) :: []) = some ((4, Y2.1) :: (3, Y3.1) :: (1, Y4.1) :: (0, Y5.1) :: (2, Y6.1) :: [], Y2.2 ++ (Y3.2 ++ (Y4.2 ++ (Y5.2 ++ (Y6.2 ++ ([])))))) := stepT (P := Tryz.prog) (n := 12) (g := 4) (t := 590) (m := 12) (x := ((Lnmnoderetries 2), Rows.laid_internal_strconv_uint64pow10)) (y := Y2) (z := ((3, Y3.1) :: (1, Y4.1) :: (0, Y5.1) :: (2, Y6.1) :: [], Y3.2 ++ (Y4.2 ++ (Y5.2 ++ (Y6.2 ++ ([])))))) n2 t2 v2 m2 l3
theorem m1 : 12 + Y1.2.length = 12 := by kernel_rfl
theorem l1 : Lay.layList Tryz.prog 12 (((Lnmnoderetries 1), Rows.laid_math_bits_deBruijn64tab) :: ((Lnmnoderetries 2), Rows.laid_internal_strconv_uint64pow10) :: ((Lnmnoderetries 3), Rows.laid_unicode_utf8_acceptRanges) :: ((Lnmnoderetries 4), Rows.laid_strconv_ErrRange) :: ((Lnmnoderetries 5), Rows.laid_strconv_ErrSyntax) :: ((Lnmnoderetries 6), Rows.laid_unicode_utf8_first) :: []) = some ((6, Y1.1) :: (4, Y2.1) :: (3, Y3.1) :: (1, Y4.1) :: (0, Y5.1) :: (2, Y6.1) :: [], Y1.2 ++ (Y2.2 ++ (Y3.2 ++ (Y4.2 ++ (Y5.2 ++ (Y6.2 ++ ([]))))))) := stepT (P := Tryz.prog) (n := 12) (g := 6) (t := 621) (m := 12) (x := ((Lnmnoderetries 1), Rows.laid_math_bits_deBruijn64tab)) (y := Y1) (z := ((4, Y2.1) :: (3, Y3.1) :: (1, Y4.1) :: (0, Y5.1) :: (2, Y6.1) :: [], Y2.2 ++ (Y3.2 ++ (Y4.2 ++ (Y5.2 ++ (Y6.2 ++ ([]))))))) n1 t1 v1 m1 l2
theorem m0 : 12 + Y0.2.length = 12 := by kernel_rfl
theorem l0 : Lay.layList Tryz.prog 12 (((Lnmnoderetries 0), Rows.laid_math_bits_deBruijn32tab) :: ((Lnmnoderetries 1), Rows.laid_math_bits_deBruijn64tab) :: ((Lnmnoderetries 2), Rows.laid_internal_strconv_uint64pow10) :: ((Lnmnoderetries 3), Rows.laid_unicode_utf8_acceptRanges) :: ((Lnmnoderetries 4), Rows.laid_strconv_ErrRange) :: ((Lnmnoderetries 5), Rows.laid_strconv_ErrSyntax) :: ((Lnmnoderetries 6), Rows.laid_unicode_utf8_first) :: []) = some ((5, Y0.1) :: (6, Y1.1) :: (4, Y2.1) :: (3, Y3.1) :: (1, Y4.1) :: (0, Y5.1) :: (2, Y6.1) :: [], Y0.2 ++ (Y1.2 ++ (Y2.2 ++ (Y3.2 ++ (Y4.2 ++ (Y5.2 ++ (Y6.2 ++ ([])))))))) := stepT (P := Tryz.prog) (n := 12) (g := 5) (t := 620) (m := 12) (x := ((Lnmnoderetries 0), Rows.laid_math_bits_deBruijn32tab)) (y := Y0) (z := ((6, Y1.1) :: (4, Y2.1) :: (3, Y3.1) :: (1, Y4.1) :: (0, Y5.1) :: (2, Y6.1) :: [], Y1.2 ++ (Y2.2 ++ (Y3.2 ++ (Y4.2 ++ (Y5.2 ++ (Y6.2 ++ ([])))))))) n0 t0 v0 m0 l1
theorem LL : Lay.layList Tryz.prog 12 Rows.nodeRetriesRow.laid = some ((5, Y0.1) :: (6, Y1.1) :: (4, Y2.1) :: (3, Y3.1) :: (1, Y4.1) :: (0, Y5.1) :: (2, Y6.1) :: [], Y0.2 ++ (Y1.2 ++ (Y2.2 ++ (Y3.2 ++ (Y4.2 ++ (Y5.2 ++ (Y6.2 ++ ([])))))))) := l0
theorem hs (os : Os) : (World.holding Tryz.prog os ⟨#[], #[], []⟩).heap.size = 12 := by unfold World.holding World.settled begin; rw [Fct.waiting_eq]; kernel_rfl
end Go.Proofs.YtdhkebolenbpiaaGreatDoor.LaynodeRetries
