/- What the law NodeRetries reaches, and what the row says of that. -/
import Derived.Test.YtdhkebolenbpiaaGreatDoorProg
import Derived.Test.YtdhkebolenbpiaaGreatDoorRows
import GoSem.ClaimFn
import Derived.KernelRfl
import GoSem.ClaimGoes
namespace Go.Proofs.YtdhkebolenbpiaaGreatDoor
namespace Cl
def bit (p j : Nat) : Bool := Nat.beq (Nat.land 1 (Nat.shiftRight p j)) 1
theorem bit_eq (p j : Nat) : bit p j = p.testBit j := by
  show Nat.beq (1 &&& (p >>> j)) 1 = _
  unfold Nat.testBit
  rw [Nat.one_and_eq_mod_two]
  rcases Nat.mod_two_eq_zero_or_one (p >>> j) with h | h <;> rw [h] <;> rfl
noncomputable def force (n : Nat) : Nat := Nat.rec (motive := fun _ => Nat) 0 (fun m _ => Nat.succ m) n
theorem force_eq (n : Nat) : force n = n := by cases n <;> rfl
noncomputable def clos (P : Program) (n : Nat) : List FuncId → List FuncId → Nat → List FuncId :=
  Nat.rec (motive := fun _ => List FuncId → List FuncId → Nat → List FuncId) (fun _ seen _ => seen.reverse)
    (fun _ go todo seen m => List.rec (motive := fun _ => List FuncId) seen.reverse (fun f todo _ =>
      Bool.rec (motive := fun _ => List FuncId) (go ((P.funcs[f]?).elim [] P.leadsTo ++ todo) (f :: seen) (force (Nat.lor m (Nat.shiftLeft 1 f)))) (go todo seen m) (bit m f)) todo) n
theorem bit_or (m f x : Nat) : bit (Nat.lor m (Nat.shiftLeft 1 f)) x = (x == f || bit m x) := by
  rw [bit_eq, bit_eq]
  show (m ||| 1 <<< f).testBit x = _
  rw [Nat.testBit_or, Nat.one_shiftLeft, Nat.testBit_two_pow, Bool.or_comm]
  congr 1
  rw [Bool.eq_iff_iff]
  simp only [decide_eq_true_eq, beq_iff_eq]
  exact eq_comm
theorem clos_eq (P : Program) : ∀ (n : Nat) (todo seen : List FuncId) (m : Nat), (∀ x, bit m x = seen.contains x) → clos P n todo seen m = P.closureVia n todo seen
  | 0, _, _, _, _ => by unfold Program.closureVia; rfl
  | n + 1, [], _, _, _ => by unfold Program.closureVia; rfl
  | n + 1, f :: todo, seen, m, h => by
    have e : clos P (n + 1) (f :: todo) seen m = Bool.rec (motive := fun _ => List FuncId) (clos P n ((P.funcs[f]?).elim [] P.leadsTo ++ todo) (f :: seen) (force (Nat.lor m (Nat.shiftLeft 1 f)))) (clos P n todo seen m) (bit m f) := rfl
    rw [e, h f]
    unfold Program.closureVia
    cases hc : seen.contains f with
    | true => exact clos_eq P n todo seen m h
    | false =>
      show clos P n ((P.funcs[f]?).elim [] P.leadsTo ++ todo) (f :: seen) (force (Nat.lor m (Nat.shiftLeft 1 f))) = _
      rw [force_eq, clos_eq P n _ (f :: seen) _ (fun x => by rw [bit_or, h x, List.contains_cons])]
      rfl
theorem closure_eq (P : Program) (f : FuncId) : P.closure f = clos P (1 + (P.funcs.toList.map fun g => (P.leadsTo g).length + 1).sum) [f] [] 0 := by
  rw [clos_eq P _ [f] [] 0 (fun x => by rw [bit_eq]; simp)]
  rfl
end Cl
end Go.Proofs.YtdhkebolenbpiaaGreatDoor
namespace Go.Proofs.YtdhkebolenbpiaaGreatDoor.Goe
open Go
set_option maxRecDepth 100000
theorem g0 : ((Tryz.prog.funcs.toList.drop 0).take 100).all (fun fn => !fn.goes) = true := by kernel_rfl
theorem g1 : ((Tryz.prog.funcs.toList.drop 100).take 100).all (fun fn => !fn.goes) = true := by kernel_rfl
theorem g2 : ((Tryz.prog.funcs.toList.drop 200).take 100).all (fun fn => !fn.goes) = true := by kernel_rfl
theorem g3 : ((Tryz.prog.funcs.toList.drop 300).take 100).all (fun fn => !fn.goes) = true := by kernel_rfl
theorem g4 : ((Tryz.prog.funcs.toList.drop 400).take 100).all (fun fn => !fn.goes) = true := by kernel_rfl
theorem ge : Tryz.prog.funcs.toList.drop 500 = [] := by kernel_rfl
theorem step {l : List Func} {m : Nat} (h : (l.take m).all (fun fn => !fn.goes) = true) (k : (l.drop m).all (fun fn => !fn.goes) = true) : l.all (fun fn => !fn.goes) = true := by
  rw [← List.take_append_drop m l, List.all_append, h, k]; rfl
theorem r5 : (Tryz.prog.funcs.toList.drop 500).all (fun fn => !fn.goes) = true := by rw [ge]; rfl
theorem r4 : (Tryz.prog.funcs.toList.drop 400).all (fun fn => !fn.goes) = true := step g4 (by rw [List.drop_drop]; exact r5)
theorem r3 : (Tryz.prog.funcs.toList.drop 300).all (fun fn => !fn.goes) = true := step g3 (by rw [List.drop_drop]; exact r4)
theorem r2 : (Tryz.prog.funcs.toList.drop 200).all (fun fn => !fn.goes) = true := step g2 (by rw [List.drop_drop]; exact r3)
theorem r1 : (Tryz.prog.funcs.toList.drop 100).all (fun fn => !fn.goes) = true := step g1 (by rw [List.drop_drop]; exact r2)
theorem r0 : (Tryz.prog.funcs.toList.drop 0).all (fun fn => !fn.goes) = true := step g0 (by rw [List.drop_drop]; exact r1)
theorem one {g : Nat} : (Tryz.prog.funcs[g]?).any Func.goes = false := by
  cases h : Tryz.prog.funcs[g]? with
  | none => rfl
  | some fn =>
    have h1 : fn ∈ Tryz.prog.funcs.toList.drop 0 := by
      rw [List.drop_zero]
      exact Array.mem_toList_iff.2 (Array.mem_of_getElem? h)
    have h2 := List.all_eq_true.1 r0 fn h1
    simpa using h2
theorem all : Tryz.prog.funcs.any Func.goes = false := by
  rw [← Array.any_toList, List.any_eq_false]
  intro fn h
  have h2 := List.all_eq_true.1 r0 fn (by rw [List.drop_zero]; exact h)
  simpa using h2
theorem goes_no (f : FuncId) : Tryz.prog.goes f = false := by
  unfold Program.goes
  rw [all, Bool.and_false, Bool.or_false, List.any_eq_false]
  intro g _
  rw [one]
  decide
end Go.Proofs.YtdhkebolenbpiaaGreatDoor.Goe
namespace Go.Proofs.YtdhkebolenbpiaaGreatDoor.nodeRetries
open Go
set_option maxRecDepth 100000 in
theorem cl : Tryz.pinned.checked.prog.closure 3 = [3, 4, 5, 14, 7, 19, 51, 82, 153, 83, 52, 85, 155, 246, 329, 385, 386, 347, 409, 410, 387, 388, 411, 412, 436, 437, 84, 154, 243, 244, 245, 328, 30, 60, 86, 156, 247, 330, 286, 89,
    157, 87, 158, 160, 250, 336, 159, 248, 331, 389, 413, 414, 249, 332, 390, 333, 334, 391, 335, 161, 252, 346, 251, 337, 343, 361, 338, 392, 339, 393, 394, 340, 395, 396, 415, 341, 342, 344, 345, 162,
    253, 163, 164, 255, 254, 348, 88, 54, 53, 55, 90, 91, 165, 167, 166, 256, 349, 350, 257, 259, 258, 64, 117, 209, 292, 296, 363, 399, 293, 211, 267, 294, 362, 295, 210, 212, 297, 298, 168, 61,
    115, 92, 169, 260, 261, 283, 281, 206, 280, 200, 202, 284, 93, 58, 105, 106, 197, 199, 282, 198, 107, 201, 56, 44, 94, 95, 67, 130, 71, 72, 135, 231, 278, 279, 315, 148, 131, 139, 138, 228,
    136, 232, 132, 229, 80, 45, 170, 190, 276, 242, 277, 355, 397, 416, 326, 382, 407, 383, 408, 427, 433, 428, 442, 429, 430, 443, 444, 447, 431, 432, 434, 435, 356, 357, 146, 327, 384, 188, 275, 352,
    262, 263, 264, 351, 96, 172, 266, 178, 171, 265, 353, 97, 173, 174, 268, 98, 175, 269, 176, 177, 270, 99, 179, 100, 180, 271, 192, 181, 272, 354, 101, 182, 273, 73, 137, 183, 102, 184, 185, 187,
    186, 274, 189, 191, 103, 193, 194, 78, 196, 195, 20, 21, 23, 22, 57, 104, 59, 108, 203, 109, 110, 111, 112, 204, 113, 205, 285, 207, 287, 288, 358, 289, 359, 360, 398, 417, 114, 24, 25, 26,
    15, 46, 81, 47, 48, 16, 49, 6, 17, 18, 50, 9, 31, 32, 33, 34, 62, 116, 208, 291, 290, 35, 63, 11, 40, 65, 119, 118, 213, 121, 215, 120, 214, 299, 66, 122, 123, 125, 216, 124,
    127, 218, 302, 241, 324, 381, 323, 379, 405, 380, 406, 419, 420, 439, 421, 422, 440, 441, 446, 423, 424, 425, 426, 325, 303, 304, 305, 68, 69, 79, 133, 230, 126, 217, 300, 364, 301, 128, 219, 306,
    307, 365, 368, 366, 367, 369, 400, 370, 371, 372, 373, 374, 220, 308, 309, 221, 129, 222, 310, 224, 223, 311, 225, 312, 239, 226, 313, 227, 314, 375, 401, 402, 418, 438, 445, 448, 36, 70, 134, 37,
    75, 76, 147, 74, 140, 233, 316, 317, 318, 319, 376, 377, 403, 404, 142, 238, 143, 141, 234, 235, 236, 320, 378, 237, 144, 145, 240, 321, 322, 38, 39, 77, 149, 150, 151, 152, 41, 13, 8, 28,
    29, 27, 10, 42, 43, 12] :=
  (Cl.closure_eq _ _).trans (by kernel_rfl)
theorem z1 : Tryz.pinned.checked.prog.funcNamed Rows.nodeRetriesRow.func = some 3 := by kernel_rfl
theorem y1 : (Rows.nodeRetriesRow.inPlace == Tryz.pinned.checked.prog.inPlace 3) = true := by
  unfold Program.inPlace
  rw [cl]
  kernel_rfl
theorem y2 : (Rows.nodeRetriesRow.unfollowed == Tryz.pinned.checked.prog.unfollowed 3) = true := by
  unfold Program.unfollowed
  rw [cl]
  kernel_rfl
theorem y3 : (Rows.nodeRetriesRow.recurses == Tryz.pinned.checked.prog.recurses 3) = true := by
  unfold Program.recurses Program.unfollowed
  rw [cl]
  kernel_rfl
theorem y4 : (Rows.nodeRetriesRow.named == Tryz.pinned.checked.prog.varsNamed 3) = true := by
  unfold Program.varsNamed
  rw [cl]
  kernel_rfl
theorem c5 : false = Rows.nodeRetriesRow.goesBy Tryz.pinned.checked.prog := by
  unfold OpenClaim.goesBy Program.goesAt Program.goesFrom
  rw [z1, Option.any_some, show Tryz.pinned.checked.prog = Tryz.prog from rfl, Goe.goes_no]
  rfl
end Go.Proofs.YtdhkebolenbpiaaGreatDoor.nodeRetries
