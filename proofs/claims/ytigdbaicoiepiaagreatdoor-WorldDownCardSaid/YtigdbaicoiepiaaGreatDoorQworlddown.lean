/- What the law WorldDown reaches, and what the row says of that. -/
import Derived.Test.YtigdbaicoiepiaaGreatDoorRows
import Derived.Test.YtigdbaicoiepiaaGreatDoorClos
import Derived.KernelRfl
import GoSem.ClaimGoes
namespace Go.Proofs.YtigdbaicoiepiaaGreatDoor.worldDown
open Go
set_option maxRecDepth 100000 in
theorem cl : Tryz.pinned.checked.prog.closure 5 = [5, 14, 15, 49, 39, 50, 37, 87, 210, 397, 211, 88, 213, 399, 530, 613, 655, 656, 630, 684, 685, 657, 658, 686, 687, 695, 696, 212, 398, 527, 528, 529, 612, 94, 219, 214, 400, 488, 588, 445,
    126, 401, 215, 402, 404, 533, 619, 403, 531, 614, 659, 688, 689, 532, 615, 660, 616, 617, 661, 618, 405, 535, 629, 534, 620, 626, 545, 621, 662, 622, 663, 664, 623, 665, 666, 690, 624, 625, 627, 628,
    406, 536, 265, 407, 446, 450, 564, 216, 46, 89, 90, 115, 217, 408, 410, 409, 537, 631, 632, 538, 540, 539, 195, 371, 441, 558, 560, 645, 680, 559, 512, 267, 546, 641, 601, 511, 513, 602, 603, 411,
    192, 369, 218, 412, 541, 542, 442, 439, 263, 438, 257, 259, 443, 104, 44, 116, 117, 254, 256, 440, 255, 118, 258, 43, 47, 105, 106, 198, 379, 202, 203, 235, 429, 436, 437, 556, 393, 380, 245, 244,
    517, 384, 520, 381, 518, 209, 86, 227, 248, 435, 226, 419, 547, 642, 670, 420, 550, 643, 551, 644, 671, 677, 672, 692, 673, 674, 693, 694, 697, 675, 676, 678, 679, 548, 549, 60, 421, 552, 246, 434,
    554, 422, 423, 424, 553, 107, 223, 266, 136, 228, 425, 555, 108, 229, 230, 426, 109, 231, 427, 232, 233, 428, 110, 234, 111, 236, 430, 250, 237, 431, 557, 112, 238, 432, 204, 385, 239, 113, 240, 241,
    243, 242, 433, 247, 249, 114, 251, 252, 137, 225, 253, 12, 98, 13, 10, 42, 103, 45, 119, 260, 120, 121, 122, 123, 261, 124, 262, 444, 264, 447, 448, 561, 449, 562, 563, 646, 681, 125, 127, 128,
    129, 51, 16, 52, 59, 53, 130, 131, 191, 20, 21, 56, 133, 35, 75, 76, 77, 78, 193, 370, 510, 417, 416, 79, 194, 25, 84, 196, 373, 372, 514, 375, 516, 374, 515, 604, 197, 376, 377, 284,
    457, 378, 340, 499, 501, 95, 221, 415, 220, 413, 543, 414, 544, 633, 634, 667, 635, 636, 668, 669, 691, 637, 638, 639, 640, 222, 592, 593, 594, 199, 200, 208, 382, 519, 341, 500, 595, 650, 565, 146,
    286, 458, 459, 566, 569, 567, 568, 570, 647, 571, 572, 573, 574, 575, 287, 334, 337, 183, 144, 272, 452, 274, 273, 453, 275, 454, 455, 276, 456, 277, 282, 281, 343, 344, 280, 96, 224, 418, 80, 201,
    383, 81, 26, 206, 392, 205, 386, 521, 605, 606, 607, 608, 652, 653, 682, 683, 388, 288, 389, 387, 522, 523, 524, 609, 654, 525, 390, 391, 526, 610, 611, 82, 83, 207, 394, 395, 396, 101, 85, 57,
    134, 268, 138, 270, 451, 269, 135, 58, 48, 24, 27, 38, 92, 93, 91, 28, 61, 140, 139, 271, 29, 30, 62, 141, 142, 143, 145, 278, 279, 283, 97, 285, 336, 147, 22, 31] :=
  (Cl.closure_eq _ _).trans (by kernel_rfl)
theorem z1 : Tryz.pinned.checked.prog.funcNamed Rows.worldDownRow.func = some 5 := by kernel_rfl
theorem y1 : (Rows.worldDownRow.inPlace == Tryz.pinned.checked.prog.inPlace 5) = true := by
  unfold Program.inPlace
  rw [cl]
  kernel_rfl
theorem y2 : (Rows.worldDownRow.unfollowed == Tryz.pinned.checked.prog.unfollowed 5) = true := by
  unfold Program.unfollowed
  rw [cl]
  kernel_rfl
theorem y3 : (Rows.worldDownRow.recurses == Tryz.pinned.checked.prog.recurses 5) = true := by
  unfold Program.recurses Program.unfollowed
  rw [cl]
  kernel_rfl
theorem y4 : (Rows.worldDownRow.named == Tryz.pinned.checked.prog.varsNamed 5) = true := by
  unfold Program.varsNamed
  rw [cl]
  kernel_rfl
theorem c5 : false = Rows.worldDownRow.goesBy Tryz.pinned.checked.prog := by
  unfold OpenClaim.goesBy Program.goesAt Program.goesFrom
  rw [z1, Option.any_some]
  unfold Program.goes Program.unfollowed
  rw [cl]
  kernel_rfl
end Go.Proofs.YtigdbaicoiepiaaGreatDoor.worldDown
