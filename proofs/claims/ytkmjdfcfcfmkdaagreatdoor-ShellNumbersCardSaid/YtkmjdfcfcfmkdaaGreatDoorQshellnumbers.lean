/- What the law ShellNumbers reaches, and what the row says of that. -/
import Derived.Test.YtkmjdfcfcfmkdaaGreatDoorRows
import Derived.Test.YtkmjdfcfcfmkdaaGreatDoorClos
import Derived.Test.YtkmjdfcfcfmkdaaGreatDoorGoe
import Derived.KernelRfl
import GoSem.ClaimGoes
namespace Go.Proofs.YtkmjdfcfcfmkdaaGreatDoor.shellNumbers
open Go
set_option maxRecDepth 100000 in
theorem cl : Tryz.pinned.checked.prog.closure 3 = [3, 5, 7, 8, 11, 21, 49, 50, 98, 22, 51, 23, 52, 99, 161, 100, 101, 102, 162, 9, 12, 24, 53, 13, 25, 14, 29, 62, 123, 202, 300, 399, 400, 124, 203, 301, 204, 205, 28, 61,
    122, 198, 199, 296, 295, 297, 200, 201, 298, 299, 397, 398, 302, 206, 26, 54, 103, 163, 167, 164, 165, 166, 168, 255, 367, 476, 83, 151, 152, 153, 252, 169, 104, 105, 171, 258, 370, 478, 536, 259,
    371, 372, 170, 256, 368, 257, 369, 477, 55, 106, 172, 175, 260, 373, 173, 174, 16, 10, 20, 46, 96, 159, 97, 160, 47, 48, 27, 56, 57, 31, 58, 107, 176, 177, 59, 108, 121, 109, 110, 111,
    178, 179, 261, 180, 262, 374, 451, 533, 450, 112, 181, 182, 263, 375, 479, 377, 480, 537, 481, 376, 86, 126, 117, 154, 194, 183, 265, 189, 190, 277, 386, 474, 527, 485, 288, 264, 378, 267, 381, 266,
    379, 482, 380, 484, 547, 483, 538, 544, 539, 576, 540, 577, 578, 541, 579, 580, 590, 542, 543, 545, 546, 184, 87, 268, 269, 250, 89, 155, 270, 239, 359, 361, 253, 365, 475, 339, 447, 531, 448, 532,
    568, 569, 587, 570, 571, 588, 589, 602, 572, 573, 574, 575, 341, 366, 468, 469, 470, 185, 271, 272, 281, 280, 382, 278, 387, 273, 383, 384, 274, 186, 187, 195, 88, 275, 385, 127, 213, 324, 212, 313,
    214, 310, 325, 326, 439, 347, 395, 495, 294, 494, 498, 440, 441, 327, 442, 394, 496, 497, 314, 315, 414, 432, 304, 526, 396, 499, 552, 583, 591, 500, 555, 584, 556, 585, 592, 598, 550, 593, 603, 594,
    595, 604, 605, 606, 596, 597, 599, 600, 553, 554, 150, 501, 557, 430, 525, 562, 514, 515, 516, 561, 316, 415, 517, 563, 317, 416, 417, 518, 318, 418, 519, 419, 420, 520, 319, 421, 320, 422, 521, 434,
    423, 522, 564, 321, 424, 523, 191, 279, 425, 322, 426, 427, 429, 428, 524, 431, 433, 323, 435, 436, 438, 437, 215, 328, 443, 329, 330, 331, 332, 444, 333, 348, 464, 463, 306, 445, 507, 528, 402, 502,
    503, 490, 529, 565, 530, 566, 567, 586, 601, 309, 408, 334, 407, 506, 558, 240, 360, 471, 535, 446, 139, 230, 343, 344, 452, 455, 453, 454, 456, 534, 457, 458, 459, 460, 461, 231, 233, 236, 147, 137,
    216, 335, 218, 217, 336, 219, 337, 254, 220, 338, 221, 227, 225, 242, 243, 224, 226, 340, 449, 113, 188, 276, 114, 92, 90, 156, 192, 282, 388, 486, 487, 488, 489, 548, 549, 581, 582, 284, 232, 285,
    283, 389, 390, 391, 491, 551, 392, 286, 287, 393, 492, 493, 115, 116, 193, 289, 290, 291, 292, 118, 60, 119, 196, 67, 131, 293, 197, 120, 148, 15, 30, 63, 64, 65, 125, 207, 303, 401, 208, 305,
    73, 133, 307, 403, 345, 462, 346, 308, 404, 405, 504, 406, 505, 210, 209, 211, 311, 409, 411, 410, 508, 559, 560, 509, 511, 510, 412, 312, 413, 512, 513, 128, 129, 130, 66, 17, 32, 69, 68, 132,
    33, 71, 72, 70, 18, 34, 74, 134, 135, 136, 138, 222, 223, 228, 342, 229, 235, 140, 35, 36, 44, 94, 158, 38, 75, 76, 141, 142, 77, 143, 234, 144, 237, 349, 352, 465, 350, 351, 353, 466,
    354, 355, 356, 357, 467, 358, 238, 145, 241, 146, 244, 362, 363, 473, 472, 245, 246, 247, 248, 364, 249, 37, 39, 78, 40, 79, 41, 80, 81, 149, 84, 251, 42, 82, 43, 85, 93, 91, 157, 19,
    45, 95, 6] :=
  (Cl.closure_eq _ _).trans (by kernel_rfl)
theorem z1 : Tryz.pinned.checked.prog.funcNamed Rows.shellNumbersRow.func = some 3 := by kernel_rfl
theorem y1 : (Rows.shellNumbersRow.inPlace == Tryz.pinned.checked.prog.inPlace 3) = true := by
  unfold Program.inPlace
  rw [cl]
  kernel_rfl
theorem y2 : (Rows.shellNumbersRow.unfollowed == Tryz.pinned.checked.prog.unfollowed 3) = true := by
  unfold Program.unfollowed
  rw [cl]
  kernel_rfl
theorem y3 : (Rows.shellNumbersRow.recurses == Tryz.pinned.checked.prog.recurses 3) = true := by
  unfold Program.recurses Program.unfollowed
  rw [cl]
  kernel_rfl
theorem y4 : (Rows.shellNumbersRow.named == Tryz.pinned.checked.prog.varsNamed 3) = true := by
  unfold Program.varsNamed
  rw [cl]
  kernel_rfl
theorem c5 : false = Rows.shellNumbersRow.goesBy Tryz.pinned.checked.prog := by
  unfold OpenClaim.goesBy Program.goesAt Program.goesFrom
  rw [z1, Option.any_some, show Tryz.pinned.checked.prog = Tryz.prog from rfl, Goe.goes_no]
  rfl
end Go.Proofs.YtkmjdfcfcfmkdaaGreatDoor.shellNumbers
