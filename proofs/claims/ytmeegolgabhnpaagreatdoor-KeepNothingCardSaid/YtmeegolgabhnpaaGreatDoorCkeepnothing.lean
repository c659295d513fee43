/- The law KeepNothing returns true for every input; its one condition is the card's own: Go's UTF-8 tables are laid as the program's text says. -/
import Derived.Test.YtmeegolgabhnpaaGreatDoorCards
import Derived.Test.YtmeegolgabhnpaaGreatDoorTkeepnothing
import Derived.Test.YtmeegolgabhnpaaGreatDoorPkeepnothing
import Derived.SevenTiedAt
import Derived.Test.YtmeegolgabhnpaaGreatDoorClos
namespace Go.Proofs.YtmeegolgabhnpaaGreatDoor.keepNothing
open Go
theorem c1 : Rows.keepNothingRow.wfByText (OpenSpec.ofChange Rows.keepNothingSpec) = true := by kernel_rfl
theorem c2 : Tryz.pinned.checked.prog.mainIs = some (true, ("154dc6e3d33aa56f28fab84619db304a3baf500573abfa2ba10c57dd8f82e925" : String).toList) := by kernel_rfl
theorem c3 : true = Tryz.pinned.checked.prog.looks [] := by kernel_rfl
theorem c4_0 : Tryz.pinned.checked.prog.wantsStandIn 3 = false := by kernel_rfl
set_option maxRecDepth 100000 in
theorem cl : Tryz.pinned.checked.prog.closure 3 = [3, 5, 6, 22, 48, 121, 49, 23, 51, 123, 255, 360, 443, 444, 378, 478, 479, 445, 446, 480, 481, 501, 502, 50, 122, 252, 253, 254, 359, 85, 191, 52, 124, 256, 361, 303, 55, 125, 53, 126,
    128, 259, 367, 127, 257, 362, 447, 482, 483, 258, 363, 448, 364, 365, 449, 366, 129, 261, 377, 260, 368, 374, 455, 369, 450, 370, 451, 452, 371, 453, 454, 484, 372, 373, 375, 376, 130, 262, 131, 132,
    264, 263, 379, 54, 25, 24, 26, 56, 57, 133, 135, 134, 265, 380, 381, 266, 268, 267, 198, 313, 299, 398, 400, 463, 488, 399, 412, 193, 394, 461, 467, 411, 386, 456, 457, 136, 195, 311, 58, 137,
    269, 270, 300, 297, 179, 296, 173, 175, 301, 59, 29, 71, 72, 170, 172, 298, 171, 73, 174, 27, 60, 61, 62, 138, 271, 204, 205, 149, 282, 294, 295, 389, 330, 272, 160, 159, 382, 286, 391, 273,
    383, 384, 274, 139, 163, 292, 291, 293, 395, 462, 487, 392, 458, 485, 459, 486, 503, 509, 504, 517, 505, 506, 518, 519, 521, 507, 508, 510, 511, 396, 397, 290, 393, 460, 161, 289, 387, 275, 276, 277,
    385, 63, 141, 192, 147, 140, 278, 388, 64, 142, 143, 279, 65, 144, 280, 145, 146, 281, 66, 148, 67, 150, 283, 165, 151, 284, 390, 68, 152, 285, 153, 287, 154, 69, 155, 156, 158, 157, 288, 162,
    164, 70, 166, 167, 209, 169, 168, 7, 28, 8, 9, 11, 31, 30, 74, 176, 75, 76, 77, 78, 177, 79, 178, 302, 180, 304, 305, 401, 306, 402, 403, 464, 489, 80, 10, 12, 32, 81, 181, 308,
    406, 307, 404, 465, 405, 466, 490, 491, 512, 492, 493, 513, 514, 520, 494, 495, 496, 497, 309, 408, 407, 182, 310, 409, 183, 34, 184, 97, 185, 187, 186, 190, 189, 188, 33, 83, 84, 82] :=
  (Cl.closure_eq _ _).trans (by kernel_rfl)
theorem c5 : false = Rows.keepNothingRow.goesBy Tryz.pinned.checked.prog := by
  unfold OpenClaim.goesBy Program.goesAt Program.goesFrom
  rw [z1, Option.any_some]
  unfold Program.goes Program.unfollowed
  rw [cl]
  kernel_rfl
theorem c6 (f : FuncId) (fn : Func) (hf : Tryz.pinned.checked.prog.funcNamed Rows.keepNothingRow.func = some f) (hfn : Tryz.pinned.checked.prog.funcs[f]? = some fn) : true = Tryz.pinned.checked.prog.looks [] ∧ ∀ (j : Nat) t, fn.params[j]? = some t → Tryz.pinned.checked.prog.wantsStandIn t = false := by
  have h1 : 3 = f := Option.some.inj (z1.symm.trans hf)
  subst h1
  have h2 : Tryz.f3 = fn := Option.some.inj ((Tryz.func3).symm.trans hfn)
  subst h2
  refine ⟨c3, fun j t ht => ?_⟩
  rw [Tryz.params3] at ht
  have hm : t ∈ [3] := by
    have h := Array.mem_of_getElem? ht
    have key : ∀ x ∈ (#[3, 3] : Array Nat).toList, x ∈ [3] := by decide
    exact key t (Array.mem_toList_iff.mpr h)
  simp only [List.mem_cons, List.not_mem_nil, or_false] at hm
  rcases hm with rfl
  · exact c4_0
theorem card : Rows.KeepNothingCardSaid :=
  Claim7.holds_tied_plain_at .later [] [.data, .data, .data, .sentinel, .sentinel, .pinned, .data] true (true, "154dc6e3d33aa56f28fab84619db304a3baf500573abfa2ba10c57dd8f82e925") true
    over (fun _ h => by cases h) c1 (fun _ h => by cases h) keepNothingTied.row_tie rfl ⟨rfl, rfl⟩ c2 rfl c6 c5
end Go.Proofs.YtmeegolgabhnpaaGreatDoor.keepNothing
namespace Go.Proofs.YtmeegolgabhnpaaGreatDoor
theorem keepNothing_card : Rows.KeepNothingCardSaid := keepNothing.card
#print axioms keepNothing_card
end Go.Proofs.YtmeegolgabhnpaaGreatDoor
