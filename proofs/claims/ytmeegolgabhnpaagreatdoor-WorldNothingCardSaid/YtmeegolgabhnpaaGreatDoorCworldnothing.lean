/- The law WorldNothing returns true for every input; its one condition is the card's own: Go's UTF-8 tables are laid as the program's text says. -/
import Derived.Test.YtmeegolgabhnpaaGreatDoorCards
import Derived.Test.YtmeegolgabhnpaaGreatDoorTworldnothing
import Derived.Test.YtmeegolgabhnpaaGreatDoorPworldnothing
import Derived.SevenTiedAt
import Derived.Test.YtmeegolgabhnpaaGreatDoorClos
namespace Go.Proofs.YtmeegolgabhnpaaGreatDoor.worldNothing
open Go
theorem c1 : Rows.worldNothingRow.wfByText (OpenSpec.ofChange Rows.worldNothingSpec) = true := by kernel_rfl
theorem c2 : Tryz.pinned.checked.prog.mainIs = some (true, ("154dc6e3d33aa56f28fab84619db304a3baf500573abfa2ba10c57dd8f82e925" : String).toList) := by kernel_rfl
theorem c3 : true = Tryz.pinned.checked.prog.looks [] := by kernel_rfl
theorem c4_0 : Tryz.pinned.checked.prog.wantsStandIn 3 = false := by kernel_rfl
set_option maxRecDepth 100000 in
theorem cl : Tryz.pinned.checked.prog.closure 4 = [4, 13, 17, 35, 43, 36, 86, 192, 193, 37, 87, 101, 88, 89, 90, 194, 195, 311, 196, 312, 410, 408, 455, 407, 91, 197, 198, 313, 299, 398, 400, 463, 488, 399, 412, 394, 461, 467, 411, 386,
    456, 457, 96, 8, 97, 60, 209, 199, 315, 204, 205, 149, 282, 294, 295, 389, 330, 314, 413, 317, 415, 316, 414, 468, 129, 261, 377, 378, 260, 368, 374, 369, 450, 370, 451, 452, 371, 453, 454, 484,
    372, 373, 375, 376, 200, 34, 318, 319, 147, 226, 340, 320, 237, 353, 355, 181, 308, 406, 307, 404, 465, 405, 466, 490, 491, 512, 492, 493, 513, 514, 520, 494, 495, 496, 497, 309, 141, 437, 438, 439,
    138, 271, 272, 160, 159, 382, 286, 391, 273, 383, 384, 274, 201, 202, 210, 184, 321, 416, 9, 11, 31, 27, 59, 29, 56, 71, 72, 170, 179, 172, 297, 55, 296, 298, 171, 173, 73, 174, 175, 300,
    301, 61, 62, 139, 163, 49, 292, 291, 293, 395, 462, 487, 392, 458, 485, 459, 486, 503, 509, 359, 504, 517, 505, 506, 518, 519, 521, 507, 508, 510, 511, 396, 397, 290, 393, 460, 161, 289, 387, 275,
    276, 277, 385, 63, 140, 278, 388, 64, 142, 143, 279, 65, 144, 280, 145, 146, 281, 66, 148, 67, 150, 283, 165, 151, 284, 390, 68, 152, 285, 153, 287, 154, 69, 155, 156, 158, 157, 288, 162, 164,
    70, 166, 167, 169, 168, 30, 74, 176, 75, 76, 77, 78, 177, 79, 178, 302, 303, 51, 123, 255, 360, 443, 444, 478, 479, 445, 446, 480, 481, 501, 502, 180, 264, 304, 122, 252, 253, 254, 305, 401,
    306, 402, 403, 464, 489, 54, 132, 80, 131, 263, 379, 238, 354, 440, 477, 423, 107, 228, 341, 342, 424, 427, 425, 426, 428, 476, 429, 430, 431, 432, 433, 229, 231, 234, 115, 105, 214, 335, 216, 215,
    336, 217, 337, 338, 218, 339, 219, 224, 223, 240, 241, 222, 182, 310, 409, 92, 203, 322, 93, 187, 207, 329, 206, 323, 417, 469, 470, 471, 472, 498, 499, 515, 516, 325, 230, 326, 324, 418, 419, 420,
    473, 500, 421, 327, 328, 422, 474, 475, 94, 95, 208, 331, 332, 333, 189, 98, 38, 99, 211, 44, 116, 334, 212, 100, 213, 14, 39, 102, 103, 104, 106, 220, 221, 225, 183, 227, 233, 108, 15, 40,
    41, 109, 110, 42, 111, 232, 256, 361, 125, 112, 235, 343, 346, 434, 344, 134, 265, 380, 381, 266, 268, 267, 345, 136, 347, 435, 348, 349, 350, 137, 269, 270, 351, 436, 352, 236, 113, 239, 114, 242,
    356, 357, 442, 441, 243, 244, 245, 246, 358, 247, 16, 18, 19, 20, 21, 45, 117, 5, 118, 6, 22, 48, 121, 23, 50, 85, 191, 52, 124, 53, 126, 128, 259, 367, 127, 257, 362, 447, 482, 483,
    258, 363, 448, 364, 365, 449, 366, 130, 262, 25, 24, 26, 57, 133, 135, 58, 248, 249, 250, 119, 46, 120, 251, 47] :=
  (Cl.closure_eq _ _).trans (by kernel_rfl)
theorem c5 : false = Rows.worldNothingRow.goesBy Tryz.pinned.checked.prog := by
  unfold OpenClaim.goesBy Program.goesAt Program.goesFrom
  rw [z1, Option.any_some]
  unfold Program.goes Program.unfollowed
  rw [cl]
  kernel_rfl
theorem c6 (f : FuncId) (fn : Func) (hf : Tryz.pinned.checked.prog.funcNamed Rows.worldNothingRow.func = some f) (hfn : Tryz.pinned.checked.prog.funcs[f]? = some fn) : true = Tryz.pinned.checked.prog.looks [] ∧ ∀ (j : Nat) t, fn.params[j]? = some t → Tryz.pinned.checked.prog.wantsStandIn t = false := by
  have h1 : 4 = f := Option.some.inj (z1.symm.trans hf)
  subst h1
  have h2 : Tryz.f4 = fn := Option.some.inj ((Tryz.func4).symm.trans hfn)
  subst h2
  refine ⟨c3, fun j t ht => ?_⟩
  rw [Tryz.params4] at ht
  have hm : t ∈ [3] := by
    have h := Array.mem_of_getElem? ht
    have key : ∀ x ∈ (#[3, 3] : Array Nat).toList, x ∈ [3] := by decide
    exact key t (Array.mem_toList_iff.mpr h)
  simp only [List.mem_cons, List.not_mem_nil, or_false] at hm
  rcases hm with rfl
  · exact c4_0
theorem card : Rows.WorldNothingCardSaid :=
  Claim7.holds_tied_plain_at .later [] [.pinned, .data, .data, .data, .data, .sentinel, .sentinel] true (true, "154dc6e3d33aa56f28fab84619db304a3baf500573abfa2ba10c57dd8f82e925") true
    over (fun _ h => by cases h) c1 (fun _ h => by cases h) worldNothingTied.row_tie rfl ⟨rfl, rfl⟩ c2 rfl c6 c5
end Go.Proofs.YtmeegolgabhnpaaGreatDoor.worldNothing
namespace Go.Proofs.YtmeegolgabhnpaaGreatDoor
theorem worldNothing_card : Rows.WorldNothingCardSaid := worldNothing.card
#print axioms worldNothing_card
end Go.Proofs.YtmeegolgabhnpaaGreatDoor
