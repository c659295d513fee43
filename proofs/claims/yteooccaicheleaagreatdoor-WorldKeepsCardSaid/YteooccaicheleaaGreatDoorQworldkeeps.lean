/- What the law WorldKeeps reaches, and what the row says of that. -/
import Derived.Test.YteooccaicheleaaGreatDoorRows
import Derived.Test.YteooccaicheleaaGreatDoorClos
import Derived.KernelRfl
import GoSem.ClaimGoes
namespace Go.Proofs.YteooccaicheleaaGreatDoor.worldKeeps
open Go
set_option maxRecDepth 100000 in
theorem cl : Tryz.pinned.checked.prog.closure 4 = [4, 11, 12, 41, 23, 24, 56, 100, 176, 280, 177, 101, 179, 158, 257, 387, 495, 496, 454, 555, 556, 497, 498, 557, 558, 601, 602, 178, 281, 409, 410, 362, 469, 264, 391, 180, 282, 411, 525, 437,
    183, 283, 181, 284, 285, 412, 254, 258, 388, 499, 559, 603, 604, 389, 500, 560, 501, 502, 561, 503, 216, 340, 453, 339, 444, 450, 441, 445, 537, 446, 538, 539, 447, 540, 541, 578, 448, 449, 451, 452,
    286, 413, 287, 288, 415, 414, 526, 182, 103, 102, 104, 184, 185, 289, 291, 290, 416, 527, 528, 417, 419, 418, 71, 112, 210, 331, 335, 443, 536, 332, 212, 149, 333, 442, 334, 211, 213, 336, 337, 292,
    68, 110, 186, 293, 420, 421, 371, 370, 327, 369, 322, 245, 372, 187, 107, 199, 200, 320, 246, 373, 321, 201, 323, 105, 49, 188, 189, 74, 125, 78, 79, 131, 234, 356, 435, 357, 143, 126, 135, 134,
    230, 132, 235, 127, 231, 232, 128, 294, 313, 434, 247, 374, 474, 547, 587, 375, 477, 548, 478, 549, 588, 594, 589, 615, 590, 591, 616, 617, 621, 592, 593, 595, 596, 475, 476, 50, 376, 479, 311, 433,
    530, 422, 423, 424, 529, 190, 296, 148, 89, 295, 425, 531, 191, 297, 298, 426, 192, 299, 427, 300, 301, 428, 193, 302, 194, 303, 429, 315, 304, 430, 532, 195, 305, 431, 80, 133, 306, 196, 307, 308,
    310, 309, 432, 312, 314, 197, 316, 317, 84, 319, 318, 48, 57, 59, 58, 106, 198, 108, 202, 324, 203, 204, 205, 206, 325, 207, 326, 436, 328, 438, 439, 533, 440, 534, 535, 577, 611, 208, 60, 61,
    62, 42, 39, 43, 47, 21, 54, 55, 67, 13, 14, 44, 86, 10, 28, 29, 30, 31, 69, 111, 209, 330, 329, 32, 70, 17, 37, 72, 114, 113, 214, 116, 217, 115, 215, 338, 73, 117, 118, 120,
    218, 119, 122, 220, 343, 244, 367, 473, 366, 471, 545, 472, 546, 579, 580, 612, 581, 582, 613, 614, 620, 583, 584, 585, 586, 368, 344, 345, 346, 75, 76, 85, 129, 233, 121, 219, 341, 455, 342, 123,
    221, 347, 348, 456, 459, 457, 458, 460, 542, 461, 462, 463, 464, 465, 222, 349, 350, 223, 124, 224, 351, 226, 225, 352, 227, 353, 242, 228, 354, 229, 355, 466, 515, 516, 506, 507, 562, 605, 33, 77,
    130, 34, 18, 82, 142, 81, 136, 236, 358, 359, 360, 361, 467, 468, 543, 544, 138, 241, 139, 137, 237, 238, 239, 363, 470, 240, 140, 141, 243, 364, 365, 35, 36, 83, 144, 145, 146, 147, 38, 45,
    87, 150, 248, 377, 249, 151, 88, 46, 40, 9, 27, 15, 16] :=
  (Cl.closure_eq _ _).trans (by kernel_rfl)
theorem z1 : Tryz.pinned.checked.prog.funcNamed Rows.worldKeepsRow.func = some 4 := by kernel_rfl
theorem y1 : (Rows.worldKeepsRow.inPlace == Tryz.pinned.checked.prog.inPlace 4) = true := by
  unfold Program.inPlace
  rw [cl]
  kernel_rfl
theorem y2 : (Rows.worldKeepsRow.unfollowed == Tryz.pinned.checked.prog.unfollowed 4) = true := by
  unfold Program.unfollowed
  rw [cl]
  kernel_rfl
theorem y3 : (Rows.worldKeepsRow.recurses == Tryz.pinned.checked.prog.recurses 4) = true := by
  unfold Program.recurses Program.unfollowed
  rw [cl]
  kernel_rfl
theorem y4 : (Rows.worldKeepsRow.named == Tryz.pinned.checked.prog.varsNamed 4) = true := by
  unfold Program.varsNamed
  rw [cl]
  kernel_rfl
theorem c5 : false = Rows.worldKeepsRow.goesBy Tryz.pinned.checked.prog := by
  unfold OpenClaim.goesBy Program.goesAt Program.goesFrom
  rw [z1, Option.any_some]
  unfold Program.goes Program.unfollowed
  rw [cl]
  kernel_rfl
end Go.Proofs.YteooccaicheleaaGreatDoor.worldKeeps
