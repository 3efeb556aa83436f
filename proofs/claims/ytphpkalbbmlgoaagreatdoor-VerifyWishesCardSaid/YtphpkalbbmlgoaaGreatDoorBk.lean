/- The types that are reached from a type, when the program has many of them: by a fixed point. -/
import Derived.Test.YtphpkalbbmlgoaaGreatDoorRows
import Derived.KernelRfl
import Derived.JoinedOf
namespace Go.Proofs.YtphpkalbbmlgoaaGreatDoor
open Go
set_option linter.unusedSimpArgs false
theorem grown_fix {P : Program} {l : List TypeId} (h : P.grow l = l) : ∀ n, P.grown n l = l
  | 0 => rfl
  | n + 1 => by
    show P.grown n (P.grow l) = l
    rw [h]
    exact grown_fix h n

theorem grown_add {P : Program} : ∀ (k n : Nat) (l : List TypeId), P.grown (k + n) l = P.grown n (P.grown k l)
  | 0, n, l => by rw [Nat.zero_add]; rfl
  | k + 1, n, l => by
    have e : k + 1 + n = (k + n) + 1 := by omega
    rw [e]
    exact grown_add k n (P.grow l)

theorem book_fix {P : Program} {t : TypeId} {l : List TypeId} (k : Nat) (hk : k ≤ P.types.size) (h1 : P.grown k [t] = l) (h : P.grow l = l) : P.book t = l := by
  unfold Program.book
  obtain ⟨n, hn⟩ : ∃ n, P.types.size = k + n := ⟨P.types.size - k, by omega⟩
  rw [hn, grown_add, h1, grown_fix h]

section
variable {P : Program} {t : TypeId} {l : List TypeId}
theorem rr_of (hb : P.book t = l) (h : (l.all fun u => P.fineRow u && (P.partsOf u).all (l.contains ·)) = true) : P.readableRec t = true := by unfold Program.readableRec; rw [hb]; exact h

theorem maps_of (hb : P.book t = l) (h : (l.any fun u => match P.underlying u with | some (.map _ _) => true | _ => false) = false) : P.mapsRec t = false := by unfold Program.mapsRec; rw [hb]; exact h

theorem ifaces_of (hb : P.book t = l) (h : (l.any fun u => match P.underlying u with | some (.interface _) => true | _ => false) = false) : P.ifacesRec t = false := by unfold Program.ifacesRec; rw [hb]; exact h

theorem veil_of (hb : P.book t = l) (h : (l.any fun u => match P.underlying u with | some (.func ..) | some (.chan ..) | some .unsafePointer => true | _ => false) = false) : P.veiledRec t = false := by unfold Program.veiledRec; rw [hb]; exact h

theorem own_of (h : P.veiledRec t = false) : P.veiledOwn t = true := by unfold Program.veiledOwn; rw [h]; rfl

theorem wide_of (hb : P.book t = l) (h : (l.any fun u => match P.underlying u with
    | some (.map k _) => (match P.underlying k with | some (.array _ _) | some (.struct _) => true | _ => false)
    | _ => false) = false) : P.wideKeysFrom t = false := by unfold Program.wideKeysFrom; rw [hb]; exact h

theorem loops_of (hb : P.book t = l) (h : ∀ u ∈ l, ∀ v ∈ P.partsOf u, (P.book v).contains u = false) : P.loopsFrom t = false := by
  unfold Program.loopsFrom
  rw [hb, List.any_eq_false]
  intro u hu
  rw [Bool.not_eq_true, List.any_eq_false]
  intro v hv
  rw [Bool.not_eq_true]
  exact h u hu v hv

end
theorem eq_any {b : Bool} {L L' : List TypeId} {p : TypeId → Bool} (hb : b = false) (hL : L = L') (h : L'.any p = false) : (b == L.any p) = true := by
  subst hb hL
  rw [h]
  rfl

theorem fits_of {c : OpenClaim} {P : Program} {ps ts T : List TypeId} (hs : c.start = .entering) (hT : (ts ++ c.laid.filterMap fun x => (P.globalNamed x.1).bind fun g => (P.globals[g]?).map (·.type)) = T) (h : T.all (P.veiledOwn ·) = true) : c.veiledFits P ps ts = true := by
  unfold OpenClaim.veiledFits
  rw [hs, hT, h]
  rfl

set_option maxRecDepth 100000
theorem bk_bool : Tryz.pinned.checked.prog.book 4 = [4] := book_fix 0 (of_decide_eq_true (by kernel_rfl)) (by kernel_rfl) (by kernel_rfl)

theorem rr_bool : Tryz.pinned.checked.prog.readableRec 4 = true := rr_of bk_bool (by kernel_rfl)

theorem if_bool : Tryz.pinned.checked.prog.ifacesRec 4 = false := ifaces_of bk_bool (by kernel_rfl)

theorem vl_bool : Tryz.pinned.checked.prog.veiledRec 4 = false := veil_of bk_bool (by kernel_rfl)

theorem wk_bool : Tryz.pinned.checked.prog.wideKeysFrom 4 = false := wide_of bk_bool (by kernel_rfl)

theorem lp_bool : Tryz.pinned.checked.prog.loopsFrom 4 = false := loops_of bk_bool (by
  intro u hu v hv
  simp only [List.mem_cons, List.not_mem_nil, or_false] at hu
  subst hu
  rw [show Tryz.pinned.checked.prog.partsOf 4 = [] by kernel_rfl] at hv
  cases hv)

theorem bk_int : Tryz.pinned.checked.prog.book 3 = [3] := book_fix 0 (of_decide_eq_true (by kernel_rfl)) (by kernel_rfl) (by kernel_rfl)

theorem rr_int : Tryz.pinned.checked.prog.readableRec 3 = true := rr_of bk_int (by kernel_rfl)

theorem mp_int : Tryz.pinned.checked.prog.mapsRec 3 = false := maps_of bk_int (by kernel_rfl)

theorem if_int : Tryz.pinned.checked.prog.ifacesRec 3 = false := ifaces_of bk_int (by kernel_rfl)

theorem vl_int : Tryz.pinned.checked.prog.veiledRec 3 = false := veil_of bk_int (by kernel_rfl)

theorem wk_int : Tryz.pinned.checked.prog.wideKeysFrom 3 = false := wide_of bk_int (by kernel_rfl)

theorem lp_int : Tryz.pinned.checked.prog.loopsFrom 3 = false := loops_of bk_int (by
  intro u hu v hv
  simp only [List.mem_cons, List.not_mem_nil, or_false] at hu
  subst hu
  rw [show Tryz.pinned.checked.prog.partsOf 3 = [] by kernel_rfl] at hv
  cases hv)

theorem bk_uint8 : Tryz.pinned.checked.prog.book 5 = [5] := book_fix 0 (of_decide_eq_true (by kernel_rfl)) (by kernel_rfl) (by kernel_rfl)

theorem bk_suint8 : Tryz.pinned.checked.prog.book 23 = [23, 5] := book_fix 1 (of_decide_eq_true (by kernel_rfl)) (by kernel_rfl) (by kernel_rfl)

theorem rr_suint8 : Tryz.pinned.checked.prog.readableRec 23 = true := rr_of bk_suint8 (by kernel_rfl)

theorem mp_suint8 : Tryz.pinned.checked.prog.mapsRec 23 = false := maps_of bk_suint8 (by kernel_rfl)

theorem if_suint8 : Tryz.pinned.checked.prog.ifacesRec 23 = false := ifaces_of bk_suint8 (by kernel_rfl)

theorem vl_suint8 : Tryz.pinned.checked.prog.veiledRec 23 = false := veil_of bk_suint8 (by kernel_rfl)

theorem wk_suint8 : Tryz.pinned.checked.prog.wideKeysFrom 23 = false := wide_of bk_suint8 (by kernel_rfl)

theorem lp_suint8 : Tryz.pinned.checked.prog.loopsFrom 23 = false := loops_of bk_suint8 (by
  intro u hu v hv
  simp only [List.mem_cons, List.not_mem_nil, or_false] at hu
  rcases hu with rfl | rfl
  · rw [show Tryz.pinned.checked.prog.partsOf 23 = [5] by kernel_rfl] at hv
    simp only [List.mem_cons, List.not_mem_nil, or_false, or_self] at hv
    subst hv
    rw [bk_uint8]
    kernel_rfl
  · rw [show Tryz.pinned.checked.prog.partsOf 5 = [] by kernel_rfl] at hv
    cases hv)

theorem bk_bandplanapiAreaWish : Tryz.pinned.checked.prog.book 26 = [26, 3] := book_fix 1 (of_decide_eq_true (by kernel_rfl)) (by kernel_rfl) (by kernel_rfl)

theorem bk_sapiAreaWish : Tryz.pinned.checked.prog.book 22 = [22, 26, 3] := book_fix 2 (of_decide_eq_true (by kernel_rfl)) (by kernel_rfl) (by kernel_rfl)

theorem rr_sapiAreaWish : Tryz.pinned.checked.prog.readableRec 22 = true := rr_of bk_sapiAreaWish (by kernel_rfl)

theorem mp_sapiAreaWish : Tryz.pinned.checked.prog.mapsRec 22 = false := maps_of bk_sapiAreaWish (by kernel_rfl)

theorem if_sapiAreaWish : Tryz.pinned.checked.prog.ifacesRec 22 = false := ifaces_of bk_sapiAreaWish (by kernel_rfl)

theorem vl_sapiAreaWish : Tryz.pinned.checked.prog.veiledRec 22 = false := veil_of bk_sapiAreaWish (by kernel_rfl)

theorem wk_sapiAreaWish : Tryz.pinned.checked.prog.wideKeysFrom 22 = false := wide_of bk_sapiAreaWish (by kernel_rfl)

theorem lp_sapiAreaWish : Tryz.pinned.checked.prog.loopsFrom 22 = false := loops_of bk_sapiAreaWish (by
  intro u hu v hv
  simp only [List.mem_cons, List.not_mem_nil, or_false] at hu
  rcases hu with rfl | rfl | rfl
  · rw [show Tryz.pinned.checked.prog.partsOf 22 = [26] by kernel_rfl] at hv
    simp only [List.mem_cons, List.not_mem_nil, or_false, or_self] at hv
    subst hv
    rw [bk_bandplanapiAreaWish]
    kernel_rfl
  · rw [show Tryz.pinned.checked.prog.partsOf 26 = [3, 3, 3] by kernel_rfl] at hv
    simp only [List.mem_cons, List.not_mem_nil, or_false, or_self] at hv
    subst hv
    rw [bk_int]
    kernel_rfl
  · rw [show Tryz.pinned.checked.prog.partsOf 3 = [] by kernel_rfl] at hv
    cases hv)

theorem bk_a64uint8 : Tryz.pinned.checked.prog.book 735 = [735, 5] := book_fix 1 (of_decide_eq_true (by kernel_rfl)) (by kernel_rfl) (by kernel_rfl)

theorem vl_a64uint8 : Tryz.pinned.checked.prog.veiledRec 735 = false := veil_of bk_a64uint8 (by kernel_rfl)

theorem bk_a4int : Tryz.pinned.checked.prog.book 778 = [778, 3] := book_fix 1 (of_decide_eq_true (by kernel_rfl)) (by kernel_rfl) (by kernel_rfl)

theorem vl_a4int : Tryz.pinned.checked.prog.veiledRec 778 = false := veil_of bk_a4int (by kernel_rfl)

theorem bk_a8uint32 : Tryz.pinned.checked.prog.book 734 = [734, 496] := book_fix 1 (of_decide_eq_true (by kernel_rfl)) (by kernel_rfl) (by kernel_rfl)

theorem vl_a8uint32 : Tryz.pinned.checked.prog.veiledRec 734 = false := veil_of bk_a8uint32 (by kernel_rfl)

theorem bk_a10a16uint8 : Tryz.pinned.checked.prog.book 801 = [801, 800, 5] := book_fix 2 (of_decide_eq_true (by kernel_rfl)) (by kernel_rfl) (by kernel_rfl)

theorem vl_a10a16uint8 : Tryz.pinned.checked.prog.veiledRec 801 = false := veil_of bk_a10a16uint8 (by kernel_rfl)

end Go.Proofs.YtphpkalbbmlgoaaGreatDoor
