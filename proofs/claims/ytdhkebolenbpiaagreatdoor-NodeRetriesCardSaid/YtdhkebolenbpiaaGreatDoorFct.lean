/- Closed facts of the program that the rows ask for, each in parts that fit. -/
import Derived.Test.YtdhkebolenbpiaaGreatDoorRows
import Derived.JoinedOf
import Derived.KernelRfl
import GoSem.Machine.Start
namespace Go.Proofs.YtdhkebolenbpiaaGreatDoor.Fct
open Go
def bookF (P : Program) : Nat → List TypeId → List TypeId
  | 0, s => s
  | n + 1, s => bif P.grow s == s then s else bookF P n (P.grow s)
theorem grown_fix {P : Program} {s : List TypeId} (h : P.grow s = s) : ∀ n, P.grown n s = s
  | 0 => rfl
  | n + 1 => by
    show P.grown n (P.grow s) = s
    rw [h]; exact grown_fix h n
theorem grown_eq (P : Program) : ∀ n s, P.grown n s = bookF P n s
  | 0, _ => rfl
  | n + 1, s => by
    show P.grown n (P.grow s) = bif P.grow s == s then s else bookF P n (P.grow s)
    cases h : (P.grow s == s) with
    | true =>
      have e : P.grow s = s := by simpa using h
      rw [e]; exact grown_fix e n
    | false => exact grown_eq P n (P.grow s)
theorem book_eq : Program.book = fun P t => bookF P P.types.size [t] := by
  funext P t
  exact grown_eq P _ _
theorem all_split {p : Nat → Bool} {a m n : Nat} (h1 : (List.range' a m).all p = true) (h2 : (List.range' (a + m) n).all p = true) : (List.range' a (m + n)).all p = true := by
  rw [← List.range'_append_1, List.all_append, h1, h2]; rfl
theorem lr0 : (List.range' 0 100).all (rowFine Tryz.prog) = true := by kernel_rfl
theorem lr1 : (List.range' 100 100).all (rowFine Tryz.prog) = true := by kernel_rfl
theorem lr2 : (List.range' 200 100).all (rowFine Tryz.prog) = true := by kernel_rfl
theorem lr3 : (List.range' 300 100).all (rowFine Tryz.prog) = true := by kernel_rfl
theorem lr4 : (List.range' 400 100).all (rowFine Tryz.prog) = true := by kernel_rfl
theorem lr5 : (List.range' 500 100).all (rowFine Tryz.prog) = true := by kernel_rfl
theorem lr6 : (List.range' 600 53).all (rowFine Tryz.prog) = true := by kernel_rfl
theorem lall : (List.range' 0 653).all (rowFine Tryz.prog) = true := (all_split (a := 0) (m := 600) (n := 53) (all_split (a := 0) (m := 500) (n := 100) (all_split (a := 0) (m := 400) (n := 100) (all_split (a := 0) (m := 300) (n := 100) (all_split (a := 0) (m := 200) (n := 100) (all_split (a := 0) (m := 100) (n := 100) lr0 lr1) lr2) lr3) lr4) lr5) lr6)
theorem lrows : (List.range Tryz.prog.types.size).all (rowFine Tryz.prog) = true := by
  have h : Tryz.prog.types.size = 653 := by kernel_rfl
  rw [h, List.range_eq_range']
  exact lall
theorem lg : Tryz.prog.globals.all (fun g => decide (g.type < Tryz.prog.types.size)) = true := by kernel_rfl
theorem lf : Tryz.prog.funcs.all (fun f => f.params.all fun t => decide (t < Tryz.prog.types.size)) = true := by kernel_rfl
theorem laidOut : laidOutB Tryz.prog = true := by
  unfold laidOutB
  rw [lg, lf, lrows]
  rfl
theorem laidOut' : laidOutB Tryz.pinned.checked.prog = true := laidOut
theorem flat_nil {α β : Type} {g : α → List β} {l : List α} (n : Nat) (h1 : (l.take n).flatMap g = []) (h2 : (l.drop n).flatMap g = []) : l.flatMap g = [] := by
  rw [← List.take_append_drop n l, List.flatMap_append, h1, h2]; rfl
abbrev rdy : Func → List Nat := fun f => (f.body.map readies).getD []
theorem rd0 : ((Tryz.prog.funcs.toList.drop 0).take 100).flatMap rdy = [] := by kernel_rfl
theorem rd1 : ((Tryz.prog.funcs.toList.drop 100).take 100).flatMap rdy = [] := by kernel_rfl
theorem rd2 : ((Tryz.prog.funcs.toList.drop 200).take 100).flatMap rdy = [] := by kernel_rfl
theorem rd3 : ((Tryz.prog.funcs.toList.drop 300).take 100).flatMap rdy = [] := by kernel_rfl
theorem rd4 : ((Tryz.prog.funcs.toList.drop 400).take 100).flatMap rdy = [] := by kernel_rfl
theorem rde : Tryz.prog.funcs.toList.drop 500 = [] := by kernel_rfl
theorem rt5 : (Tryz.prog.funcs.toList.drop 500).flatMap rdy = [] := by rw [rde]; rfl
theorem rt4 : (Tryz.prog.funcs.toList.drop 400).flatMap rdy = [] := flat_nil 100 rd4 (by rw [List.drop_drop]; exact rt5)
theorem rt3 : (Tryz.prog.funcs.toList.drop 300).flatMap rdy = [] := flat_nil 100 rd3 (by rw [List.drop_drop]; exact rt4)
theorem rt2 : (Tryz.prog.funcs.toList.drop 200).flatMap rdy = [] := flat_nil 100 rd2 (by rw [List.drop_drop]; exact rt3)
theorem rt1 : (Tryz.prog.funcs.toList.drop 100).flatMap rdy = [] := flat_nil 100 rd1 (by rw [List.drop_drop]; exact rt2)
theorem rt0 : (Tryz.prog.funcs.toList.drop 0).flatMap rdy = [] := flat_nil 100 rd0 (by rw [List.drop_drop]; exact rt1)
theorem waiting_eq : waiting Tryz.prog = Array.replicate 7 false := by
  have h0 : Tryz.prog.funcs.toList.flatMap rdy = [] := rt0
  have h1 : Tryz.prog.globals.size = 7 := by kernel_rfl
  unfold waiting
  show (Tryz.prog.funcs.toList.flatMap rdy).foldl _ (Array.replicate Tryz.prog.globals.size false) = _
  rw [h0, h1]
  rfl
theorem waiting_eq1 : waiting Tryz.checked.prog = Array.replicate 7 false := waiting_eq
theorem waiting_eq2 : waiting Tryz.pinned.checked.prog = Array.replicate 7 false := waiting_eq
theorem rowed : mapsRowed Tryz.pinned.checked.prog = true := by kernel_rfl
theorem plain : Tryz.pinned.checked.prog.plainKeys = false := by kernel_rfl
theorem heard : Tryz.pinned.checked.prog.stopsHeard = true := by kernel_rfl
theorem enter : Tryz.pinned.checked.prog.mayEnter = true := by kernel_rfl
end Go.Proofs.YtdhkebolenbpiaaGreatDoor.Fct
