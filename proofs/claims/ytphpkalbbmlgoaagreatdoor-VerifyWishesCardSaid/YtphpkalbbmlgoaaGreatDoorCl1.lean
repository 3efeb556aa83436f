/- The closures of the laws, by the table. -/
import Derived.Test.YtphpkalbbmlgoaaGreatDoorClA
import Derived.Test.YtphpkalbbmlgoaaGreatDoorClB
import Derived.Test.YtphpkalbbmlgoaaGreatDoorClC
import Derived.Test.YtphpkalbbmlgoaaGreatDoorClD
namespace Go.Proofs.YtphpkalbbmlgoaaGreatDoor
open Go
def clT : List (Nat × List Nat × List Nat) := ctbA ++ ctbB ++ ctbC ++ ctbD

def clA : List (List Nat) := clT.map (·.2.1)

def clG : List (List Nat) := clT.map (·.2.2)

set_option maxRecDepth 10000000
theorem clT_ok : clT.all (rowOk Tryz.prog) = true := by
  unfold clT
  simp only [List.all_append, ctbA_ok, ctbB_ok, ctbC_ok, ctbD_ok, Bool.and_true]

theorem clT_len : clT.length = 734 := by kernel_rfl

theorem clF_len : Tryz.prog.funcs.size = 734 := by kernel_rfl

theorem clT_ord : (List.range 734).all (fun i => (clT[i]?).any (fun x => x.1 == i)) = true := by kernel_rfl

theorem cl_at (g : Nat) : leadF Tryz.prog g = clA.getD g [] ∧ globF Tryz.prog g = clG.getD g [] := by
  by_cases hg : g < 734
  · have h1 := List.all_eq_true.1 clT_ord g (List.mem_range.2 hg)
    cases hx : clT[g]? with
    | none => rw [hx] at h1; cases h1
    | some x =>
      rw [hx] at h1
      have h2 : x.1 = g := by simpa using h1
      obtain ⟨a, l, m⟩ := x
      simp only at h2
      subst h2
      obtain ⟨h3, h4⟩ := rowOk_at clT_ok (List.mem_of_getElem? hx)
      rw [h3, h4]
      unfold clA clG
      rw [List.getD_eq_getElem?_getD, List.getD_eq_getElem?_getD, List.getElem?_map, List.getElem?_map, hx]
      exact ⟨rfl, rfl⟩
  · have h1 : Tryz.prog.funcs[g]? = none := Array.getElem?_eq_none (by rw [clF_len]; omega)
    have h2 : clT[g]? = none := List.getElem?_eq_none (by rw [clT_len]; omega)
    unfold leadF globF clA clG
    rw [h1, List.getD_eq_getElem?_getD, List.getD_eq_getElem?_getD, List.getElem?_map, List.getElem?_map, h2]
    exact ⟨rfl, rfl⟩

theorem cl_flen : Tryz.prog.funcs.toList.length = 734 := by rw [Array.length_toList]; exact clF_len

def cloWish : List Nat := [3, 5, 6, 24, 25, 54, 55, 57, 56, 26, 9, 27, 28, 59, 60, 62, 108, 58, 63, 107, 29, 61, 30, 31, 11, 22, 32, 64, 109, 65, 66, 110, 104, 111, 200, 329, 201, 112, 202, 203, 330, 448, 33, 67, 113, 13, 14, 12, 34, 68, 114, 69, 115, 204, 331, 332, 205, 333, 334, 167, 283, 206, 335, 207, 116, 208, 209, 336, 210, 211, 244, 212, 213, 214, 215, 216, 217, 218, 219, 117, 220, 118, 221, 119, 51, 120, 222, 337, 338, 121, 223, 339, 340, 449, 450, 534, 341, 451, 342, 224, 343, 452, 460, 538, 539, 600, 540, 541, 461, 542, 543, 544, 535, 597, 627, 560, 629, 630, 631, 633, 347, 456, 344, 226, 225, 345, 346, 453, 454, 455, 536, 598, 458, 457, 537, 599, 459, 234, 348, 462, 545, 601, 556, 625, 626, 557, 628, 632, 602, 546, 547, 548, 603, 604, 549, 550, 605, 606, 607, 463, 551, 608, 552, 553, 609, 499, 581, 126, 610, 611, 646, 647, 648, 613, 436, 282, 417, 418, 523, 586, 587, 642, 588, 504, 505, 589, 643, 644, 662, 590, 591, 592, 593, 649, 231, 230, 351, 612, 614, 650, 663, 664, 665, 554, 615, 651, 666, 667, 668, 680, 697, 681, 682, 683, 698, 652, 616, 654, 464, 555, 617, 618, 657, 619, 620, 658, 659, 679, 621, 622, 623, 624, 672, 653, 669, 670, 684, 690, 685, 686, 699, 703, 700, 687, 701, 688, 702, 689, 671, 691, 655, 674, 693, 673, 692, 675, 676, 694, 677, 656, 678, 695, 696, 465, 466, 558, 559, 467, 564, 634, 561, 562, 563, 349, 468, 469, 565, 350, 470, 471, 566, 70, 122, 227, 232, 123, 124, 228, 125, 229, 127, 128, 233, 352, 129, 235, 353, 472, 473, 567, 130, 236, 354, 237, 71, 131, 238, 239, 133, 240, 132, 241, 242, 243, 134, 135, 245, 136, 72, 137, 247, 246, 248, 138, 249, 250, 139, 140, 141, 251, 73, 142, 143, 144, 145, 146, 74, 147, 197, 252, 355, 253, 148, 169, 178, 295, 424, 300, 175, 293, 254, 149, 255, 278, 402, 496, 497, 356, 198, 357, 358, 474, 568, 475, 256, 359, 476, 422, 360, 477, 569, 478, 479, 570, 362, 257, 361, 480, 571, 258, 363, 481, 259, 86, 90, 85, 364, 482, 365, 483, 572, 288, 421, 510, 584, 640, 639, 661, 366, 367, 484, 35, 75, 36, 76, 150, 260, 151, 261, 368, 369, 262, 370, 485, 271, 391, 392, 270, 269, 263, 155, 371, 486, 487, 373, 372, 488, 156, 374, 375, 376, 377, 272, 393, 489, 91, 183, 381, 490, 394, 493, 164, 423, 328, 445, 446, 533, 596, 645, 447, 39, 378, 379, 380, 382, 23, 52, 53, 78, 105, 199, 106, 268, 152, 264, 383, 384, 385, 386, 387, 38, 77, 153, 154, 37, 40, 79, 157, 266, 390, 265, 388, 491, 389, 492, 573, 574, 635, 575, 576, 636, 637, 660, 577, 578, 579, 580, 267, 158, 273, 395, 274, 396, 397, 494, 16, 43, 18, 48, 99, 44, 82, 101, 81, 161, 277, 401, 403, 404, 498, 279, 405, 500, 162, 280, 406, 501, 502, 407, 312, 193, 321, 320, 440, 441, 437, 324, 322, 323, 326, 442, 325, 443, 529, 530, 531, 532, 524, 426, 513, 514, 195, 408, 173, 194, 292, 170, 290, 289, 163, 165, 281, 409, 410, 503, 411, 412, 506, 507, 582, 413, 414, 415, 416, 166, 83, 168, 284, 285, 419, 508, 583, 638, 509, 286, 420, 296, 425, 511, 512, 585, 641, 287, 45, 84, 102, 87, 88, 171, 291, 172, 174, 176, 177, 294, 297, 298, 299, 427, 179, 301, 428, 429, 517, 515, 516, 180, 302, 430, 518, 181, 303, 89, 182, 46, 47, 97, 98, 92, 184, 304, 432, 431, 93, 186, 187, 185, 188, 94, 189, 305, 309, 308, 435, 433, 519, 520, 306, 434, 521, 522, 307, 190, 95, 310, 316, 318, 311, 191, 313, 438, 525, 594, 526, 595, 527, 439, 528, 314, 192, 315, 317, 319, 96, 196, 327, 444, 7, 8, 10]

theorem cloWish_run : closeA clA 1475 [3] [] = some cloWish := by kernel_rfl

theorem cloWish_is : Tryz.prog.closure 3 = cloWish := closure_of (fun g => (cl_at g).1) cloWish_run (by rw [cl_flen]; exact of_decide_eq_true (by kernel_rfl))

end Go.Proofs.YtphpkalbbmlgoaaGreatDoor
